/- The laws on TextNum, and on NumText and TextNum together, walked. -/
import Derived.Test.YtjncpjibkjncaaaDoorTnC
import Derived.Test.YtjncpjibkjncaaaDoorRows
import Derived.Test.YtjncpjibkjncaaaDoorDraw
import Derived.Test.YtjncpjibkjncaaaDoorOpen
import Derived.Lib.LaidU8
import Derived.Below
import Derived.Stop.LaidErr
namespace Go.Proofs.YtjncpjibkjncaaaDoor
open Go.RowKit Go.Proofs.YtjncpjibkjncaaaDoor.Num Go.Proofs.YtjncpjibkjncaaaDoor.NumC Go.Proofs.YtjncpjibkjncaaaDoor.Mem Go.Proofs.YtjncpjibkjncaaaDoor.Draw Go.Proofs.YtjncpjibkjncaaaDoor.Dig Go.Proofs.YtjncpjibkjncaaaDoor.Tn
set_option linter.unusedVariables false
set_option maxRecDepth 100000

theorem pow_tabT {rest : List (String × DataW Unit)} {W : World} (h : laidMet Tryd.prog (("internal/strconv.uint64pow10", Rows.laid_internal_strconv_uint64pow10) :: rest) W) : TabP W :=
  Lib.tabIs_of_head (rest := rest) (g := 6) (t := 94) (e := 68) (by kernel_rfl) (by kernel_rfl) Tryd.underlying94 Tryd.underlying68 (by kernel_rfl) (by kernel_rfl) h
theorem err_at {l : List (String × DataW Unit)} {W : World} {n nm : String} {d : DataW Unit} {g : Nat} (h : laidMet Tryd.prog l W) (hm : (n, DataW.iface nm d) ∈ l) (hg : Tryd.prog.globalNamed n = some g) (ht : (Tryd.prog.globals[g]?).map (·.type) = some 33) : ErrAt g W := by
  obtain ⟨g', t, cs, fuel, p, hg', hty, hvar, hd⟩ := Lib.laidMet.reads h hm
  obtain rfl := Option.some.inj (hg.symm.trans hg')
  obtain rfl := Option.some.inj (ht.symm.trans hty)
  obtain ⟨l0⟩ := cs
  obtain ⟨f1, u, v, rfl, _, _⟩ := iface_of_trod Tryd.underlying33 hd
  exact ⟨u, v, by have := World.var?_cell hg hvar 0; simpa using this⟩
theorem lib3_of {W : World} (h : laidMetH Tryd.prog Rows.fnExactTextNumRow.laid W) : Lib3 W := by
  have h1 := pow_tabT (rest := [("strconv.ErrRange", Rows.laid_strconv_ErrRange), ("strconv.ErrSyntax", Rows.laid_strconv_ErrSyntax)]) (laidMet.tail (laidMet.tail h))
  have h2 : (("strconv.ErrSyntax", DataW.iface "*errors.errorString" (.ptr (.agg [.lit (.string [105, 110, 118, 97, 108, 105, 100, 32, 115, 121, 110, 116, 97, 120])]))) : String × DataW Unit) ∈ Rows.fnExactTextNumRow.laid :=
    List.Mem.tail _ (List.Mem.tail _ (List.Mem.tail _ (List.Mem.tail _ (List.Mem.head _))))
  have h3 : (("strconv.ErrRange", DataW.iface "*errors.errorString" (.ptr (.agg [.lit (.string [118, 97, 108, 117, 101, 32, 111, 117, 116, 32, 111, 102, 32, 114, 97, 110, 103, 101])]))) : String × DataW Unit) ∈ Rows.fnExactTextNumRow.laid :=
    List.Mem.tail _ (List.Mem.tail _ (List.Mem.tail _ (List.Mem.head _)))
  exact ⟨h1, err_at h h2 (by kernel_rfl) (by kernel_rfl), err_at h h3 (by kernel_rfl) (by kernel_rfl)⟩
theorem tn_yes {s : ByteArray} {v : Int} {e : Ending} (h0 : -2147483648 ≤ v) (h1 : v ≤ 2147483647) (hs : s = nt v) (h : TN s e) : e = .returned (.tuple #[.int .i64 v, .bool true]) :=
  tn_same h (.inl ⟨v, h0, h1, hs, rfl⟩)
theorem tn_no {s : ByteArray} {e : Ending} (hn : ∀ v : Int, -2147483648 ≤ v → v ≤ 2147483647 → s ≠ nt v) (h : TN s e) : e = .returned (.tuple #[.int .i64 0, .bool false]) := tn_same h (.inr ⟨hn, rfl⟩)
theorem fnExactTextNum_core (s : ByteArray) (w : World) (hn : (s.size : Int) ≤ 1048576) (v : Int) (b : Bool) (HL : Hid (Lib3 w)) (HE : Hid (∀ e, TN s e → e = .returned (.tuple #[.int .i64 v, .bool b]))) (HS : Hid (s.size ≤ 1048576)) :
    Calls Tryd.prog 3 #[.string s] w fun e w' => e = .returned (.bool true) ∧ Below w.heap.size w w' := by
  have hvv : (v == v) = true := by simp
  go_enter Tryd.func3, Tryd.ntmps3
  go_wp2_with fail
  refine (sTextNum s w hn).mono ?_
  rintro e w1 ⟨ht, hb⟩
  have he := HE.out e ht
  subst he
  have HL1 := hide (lib3_bel HL.out hb)
  have B1 := hide hb
  clear hb ht
  go_wp2_with fail
  refine (iTextNum s w1 HS.out HL1.out).mono ?_
  rintro e w2 ⟨ht, hb⟩
  have he := HE.out e ht
  subst he
  have B2 := hide (bel_step B1.out hb B1.out.size)
  clear hb ht
  go_wp2_with fail
  go_ret
  exact ⟨rfl, B2.out⟩
theorem fnExactTextNum_walk (a0 : ByteArray) (w : World) (w0 : a0.size ≤ maxLen) (hL : laidMetH Tryd.prog Rows.fnExactTextNumRow.laid w) : Calls Tryd.prog 3 #[.string a0] w fun e w' => e = .returned (.bool true) ∧ Below w.heap.size w w' := by
  have HT := hide (lib3_of hL)
  have hm : (a0.size : Int) ≤ 9223372036854775807 := by unfold maxLen at w0; omega
  clear w0 hL
  by_cases hn : 1048576 < (a0.size : Int)
  · go_enter Tryd.func3, Tryd.ntmps3
    go_wp2_with fail
    go_ret
    exact ⟨rfl, Below.refl _ _⟩
  · have hs : a0.size ≤ 1048576 := by omega
    by_cases h : ∃ v : Int, -2147483648 ≤ v ∧ v ≤ 2147483647 ∧ a0 = nt v
    · obtain ⟨v, h0, h1, hv⟩ := h
      exact fnExactTextNum_core a0 w (by omega) v true HT (hide fun e he => tn_yes h0 h1 hv he) (hide hs)
    · exact fnExactTextNum_core a0 w (by omega) 0 false HT (hide fun e he => tn_no (fun v h0 h1 hv => h ⟨v, h0, h1, hv⟩) he) (hide hs)
theorem DrawNumText_c (A : Option Addr) (n c : Nat) (bs : List Int) (w : World) (hr : Rd w w.heap.size 1 A n (by8 bs)) (hn : n ≤ 1048576) (hx : ∀ x ∈ bs, 0 ≤ x ∧ x ≤ 255) :
    Calls Tryd.prog 12 #[.slice A n c] w fun e w' => ∃ x : Int, e = .returned (.int .i64 x) ∧ (-9223372036854775808 ≤ x ∧ x ≤ 9223372036854775807) ∧ Below w.heap.size w w' := by
  go_enter Tryd.func12, Tryd.ntmps12
  go_wp2_with fail
  refine (new_c A n c bs w hr hn hx).mono ?_
  rintro e w1 ⟨g, rfl, hg, hc1, hb1⟩
  clear hr hx
  go_wp2_with fail
  refine (raw_c g A n c bs w1 _ hc1 (Below.refl _ _)).mono ?_
  rintro e w3 ⟨x, rfl, hx, hc3, hb3⟩
  go_wp2_with fail
  go_ret
  exact ⟨x, rfl, hx, hb1.trans (hb3.mono hg)⟩
theorem fnNumText_long (A : Option Addr) (n c : Nat) (w : World) (hn : 1048576 < n) (hm : n ≤ 9223372036854775807) : Calls Tryd.prog 4 #[.slice A n c] w fun e w' => e = .returned (.bool true) ∧ Below w.heap.size w w' := by
  have hn' : (1048576 : Int) < n := by omega
  clear hn
  go_enter Tryd.func4, Tryd.ntmps4
  go_wp2_with fail
  go_ret
  exact ⟨rfl, Below.refl _ _⟩
theorem fnNumText_core (n c : Nat) (A0 : Option Addr) (bs0 : List Int) (w : World) (hn : (n : Int) ≤ 1048576) (HN : Hid (n ≤ 1048576)) (HR : Hid (Rd w w.heap.size 1 A0 n (by8 bs0))) (HX : Hid (∀ x ∈ bs0, 0 ≤ x ∧ x ≤ 255)) (HL : Hid (Lib3 w)) :
    Calls Tryd.prog 4 #[.slice A0 n c] w fun e w' => e = .returned (.bool true) ∧ Below w.heap.size w w' := by
  go_enter Tryd.func4, Tryd.ntmps4
  go_wp2_with fail
  refine (DrawNumText_c A0 n c bs0 w HR.out HN.out HX.out).mono ?_
  rintro e w1 ⟨x, rfl, hx, hb1⟩
  have HL1 := hide (lib3_bel HL.out hb1)
  have B1 := hide hb1
  clear hb1 hx
  obtain ⟨v, hv⟩ : ∃ v, wrap32 x = v := ⟨_, rfl⟩
  have hvb : -2147483648 ≤ v ∧ v ≤ 2147483647 := by rw [← hv]; unfold wrap32; omega
  have hsz := nt_size v hvb.1 hvb.2
  obtain ⟨S, hS⟩ : ∃ S, nt v = S := ⟨_, rfl⟩
  have cI := hide (fun w h => iNumText x w h)
  have cS := hide (fun w => sNumText x w)
  have cW := hide (fun w => iWrap x w)
  rw [hv] at cI cS cW
  rw [hS] at cI cS hsz
  have HE : Hid (∀ e, TN S e → e = .returned (.tuple #[.int .i64 v, .bool true])) := hide fun e he => tn_yes hvb.1 hvb.2 hS.symm he
  have HZ := hide (show S.size ≤ 1048576 by omega)
  have hvv : (v == v) = true := by simp
  have hss : (S.toList == S.toList) = true := by simp
  clear hv hvb hsz hS
  go_wp2_with fail
  refine (cI.out _ HL1.out.1).mono ?_
  rintro e w2 ⟨rfl, k, os, rfl⟩
  have B2 := hide (bel_step B1.out (bel_growT w1 k os) B1.out.size)
  have HL2 := hide (lib3_bel HL1.out (bel_growT w1 k os))
  generalize «Sort».grow (w1.drewN k) os = W2 at B2 HL2 ⊢
  go_wp2_with fail
  refine (iTextNum S W2 HZ.out HL2.out).mono ?_
  rintro e w3 ⟨ht, hb⟩
  have he := HE.out e ht
  subst he
  have B3 := hide (bel_step B2.out hb B2.out.size)
  clear hb ht
  go_wp2_with fail
  refine (cS.out _).mono ?_
  rintro e w4 ⟨rfl, hb⟩
  have B4 := hide (bel_step B3.out hb B3.out.size)
  clear hb
  go_wp2_with (go_at_call 15; refine (cW.out _).mono ?_; rintro e w' ⟨rfl, rfl⟩)
  go_ret
  exact ⟨rfl, B4.out⟩
theorem fnNumText_walk (A0 : Option Addr) (n0 c0 : Nat) (bs0 : List Int) (w : World) (w0 : IsNums .u8 w A0 n0 c0 bs0) (hL : laidMetH Tryd.prog Rows.fnNumTextRow.laid w) : Calls Tryd.prog 4 #[.slice A0 n0 c0] w fun e w' => e = .returned (.bool true) ∧ Below w.heap.size w w' := by
  have HT := hide (lib3_of (show laidMetH Tryd.prog Rows.fnExactTextNumRow.laid w from hL))
  have hx : ∀ x ∈ bs0, 0 ≤ x ∧ x ≤ 255 := fun x h => u8_of_wf (w0.wf x h)
  have hm : n0 ≤ 9223372036854775807 := by have := w0.max; have := w0.le; unfold maxLen at *; omega
  by_cases hn : 1048576 < n0
  · exact fnNumText_long A0 n0 c0 w hn hm
  · exact fnNumText_core n0 c0 A0 bs0 w (by omega) (hide (by omega)) w0.rd hx HT
end Go.Proofs.YtjncpjibkjncaaaDoor
