/- The laws on OpName, NameOp and both together, walked. -/
import Derived.Test.YtjncpjibkjncaaaDoorOpP
import Derived.Test.YtjncpjibkjncaaaDoorRows
import Derived.Test.YtjncpjibkjncaaaDoorDraw
import Derived.Test.YtjncpjibkjncaaaDoorOpen
import Derived.Below
import Derived.Stop.LaidErr
namespace Go.Proofs.YtjncpjibkjncaaaDoor
open Go.RowKit Go.Proofs.YtjncpjibkjncaaaDoor.Num Go.Proofs.YtjncpjibkjncaaaDoor.NumC Go.Proofs.YtjncpjibkjncaaaDoor.Mem Go.Proofs.YtjncpjibkjncaaaDoor.Draw Go.Proofs.YtjncpjibkjncaaaDoor.Ops
set_option linter.unusedVariables false
set_option maxRecDepth 100000

theorem space_tab {rest : List (String × DataW Unit)} {W : World} (h : laidMet Tryd.prog (("strings.asciiSpace", Rows.laid_strings_asciiSpace) :: rest) W) : Tab W :=
  Lib.tabIs_of_head (rest := rest) (g := 2) (t := 53) (e := 5) (by kernel_rfl) (by kernel_rfl) Tryd.underlying53 Tryd.underlying5 (by kernel_rfl) (by kernel_rfl) h
theorem fnExactOpName_walk (a0 : Int) (w : World) (w0 : (Lit.int .i64 a0).wf = true) (hL : laidMetH Tryd.prog Rows.fnExactOpNameRow.laid w) : Calls Tryd.prog 6 #[.int .i64 a0] w fun e w' => e = .returned (.bool true) ∧ Below w.heap.size w w' := by
  have HT := hide (space_tab (rest := []) (laidMet.tail hL))
  have cS := hide (fun w => sOpName a0 w)
  have cI := hide (fun w h => iOpName a0 w h)
  obtain ⟨S, hS⟩ : ∃ S, opName a0 = S := ⟨_, rfl⟩
  rw [hS] at cS cI
  clear w0 hL hS
  go_enter Tryd.func6, Tryd.ntmps6
  go_wp2_with fail
  refine (cS.out _).mono ?_
  rintro e w1 ⟨rfl, hb⟩
  have HT1 := hide (tabS_bel HT.out hb)
  have B1 := hide hb
  clear hb
  go_wp2_with fail
  refine (cI.out _ HT1.out).mono ?_
  rintro e w2 ⟨rfl, hb2⟩
  have B2 := hide (bel_step B1.out hb2 B1.out.size)
  clear hb2
  go_wp2_with fail
  go_ret
  exact ⟨rfl, B2.out⟩
theorem fnExactNameOp_walk (a0 : ByteArray) (w : World) (w0 : a0.size ≤ maxLen) (hL : laidMetH Tryd.prog Rows.fnExactNameOpRow.laid w) : Calls Tryd.prog 7 #[.string a0] w fun e w' => e = .returned (.bool true) ∧ Below w.heap.size w w' := by
  have HT := hide (space_tab (rest := []) (laidMet.tail hL))
  have cS := hide (fun w => sNameOp a0 w)
  have cI := hide (fun w h => iNameOp a0 w h)
  obtain ⟨R, hR⟩ : ∃ R, nameOp a0 = R := ⟨_, rfl⟩
  rw [hR] at cS cI
  have hm : (a0.size : Int) ≤ 9223372036854775807 := by unfold maxLen at w0; omega
  clear w0 hL hR
  by_cases hn : 1048576 < (a0.size : Int)
  · go_enter Tryd.func7, Tryd.ntmps7
    go_wp2_with fail
    go_ret
    exact ⟨rfl, Below.refl _ _⟩
  · have hn' : (a0.size : Int) ≤ 1048576 := by omega
    clear hn
    go_enter Tryd.func7, Tryd.ntmps7
    go_wp2_with fail
    refine (cS.out _).mono ?_
    rintro e w1 ⟨rfl, hb⟩
    have HT1 := hide (tabS_bel HT.out hb)
    have B1 := hide hb
    clear hb
    go_wp2_with fail
    refine (cI.out _ HT1.out).mono ?_
    rintro e w2 ⟨rfl, hb2⟩
    have B2 := hide (bel_step B1.out hb2 B1.out.size)
    clear hb2
    go_wp2_with fail
    go_ret
    exact ⟨rfl, B2.out⟩
theorem DrawOpName_c (A : Option Addr) (n c : Nat) (bs : List Int) (w : World) (hr : Rd w w.heap.size 1 A n (by8 bs)) (hn : n ≤ 1048576) (hx : ∀ x ∈ bs, 0 ≤ x ∧ x ≤ 255) :
    Calls Tryd.prog 22 #[.slice A n c] w fun e w' => ∃ x : Int, e = .returned (.int .i64 x) ∧ Below w.heap.size w w' := by
  go_enter Tryd.func22, Tryd.ntmps22
  go_wp2_with fail
  refine (new_c A n c bs w hr hn hx).mono ?_
  rintro e w1 ⟨g, rfl, hg, hc1, hb1⟩
  clear hr hx
  go_wp2_with fail
  refine (below_c g A n c bs 12 w1 _ (by omega) hc1 (Below.refl _ _)).mono ?_
  rintro e w2 ⟨k, rfl, ⟨p0, p1⟩, hc2, hb2⟩
  by_cases hk : k = 0
  · subst hk
    go_wp2_with fail
    refine (raw_c g A n c bs w1 _ hc2 hb2).mono ?_
    rintro e w3 ⟨x, rfl, _, hc3, hb3⟩
    go_wp2_with fail
    go_ret
    exact ⟨x, rfl, hb1.trans (hb3.mono hg)⟩
  · have hk' : (k == 0) = false := by simpa using hk
    go_wp2_with fail
    refine (below_c g A n c bs 130 w1 _ (by omega) hc2 hb2).mono ?_
    rintro e w3 ⟨x, rfl, ⟨q0, q1⟩, hc3, hb3⟩
    go_wp2_with fail
    go_ret
    exact ⟨_, rfl, hb1.trans (hb3.mono hg)⟩
theorem fnOps_long (A : Option Addr) (n c : Nat) (w : World) (hn : 1048576 < n) (hm : n ≤ 9223372036854775807) : Calls Tryd.prog 8 #[.slice A n c] w fun e w' => e = .returned (.bool true) ∧ Below w.heap.size w w' := by
  have hn' : (1048576 : Int) < n := by omega
  clear hn
  go_enter Tryd.func8, Tryd.ntmps8
  go_wp2_with fail
  go_ret
  exact ⟨rfl, Below.refl _ _⟩
theorem fnOps_core (n c : Nat) (A0 : Option Addr) (bs0 : List Int) (w : World) (hn : (n : Int) ≤ 1048576) (HN : Hid (n ≤ 1048576)) (HR : Hid (Rd w w.heap.size 1 A0 n (by8 bs0))) (HX : Hid (∀ x ∈ bs0, 0 ≤ x ∧ x ≤ 255)) (HT : Hid (Tab w)) :
    Calls Tryd.prog 8 #[.slice A0 n c] w fun e w' => e = .returned (.bool true) ∧ Below w.heap.size w w' := by
  go_enter Tryd.func8, Tryd.ntmps8
  go_wp2_with fail
  refine (DrawOpName_c A0 n c bs0 w HR.out HN.out HX.out).mono ?_
  rintro e w1 ⟨x, rfl, hb1⟩
  have HT1 := hide (tabS_bel HT.out hb1)
  have B1 := hide hb1
  clear hb1
  obtain ⟨S, hS⟩ : ∃ S, opName x = S := ⟨_, rfl⟩
  have cS := hide (fun w => sOpName x w)
  have cI := hide (fun w h => iOpName x w h)
  rw [hS] at cS cI
  have cN := hide (fun w h => iNameOp S w h)
  have hvv : (S.toList == S.toList) = true := by simp
  go_wp2_with fail
  refine (cI.out _ HT1.out).mono ?_
  rintro e w2 ⟨rfl, hb2⟩
  have B2 := hide (bel_step B1.out hb2 B1.out.size)
  have HT2 := hide (tabS_bel HT1.out hb2)
  clear hb2
  go_wp2_with fail
  refine (cS.out _).mono ?_
  rintro e w3 ⟨rfl, hb3⟩
  have B3 := hide (bel_step B2.out hb3 B2.out.size)
  have HT3 := hide (tabS_bel HT2.out hb3)
  clear hb3
  by_cases hs : S = ⟨#[]⟩
  · subst hs
    rw [op_none empty_no] at cN
    clear hS
    go_wp2_with fail
    refine (cN.out _ HT3.out).mono ?_
    rintro e w4 ⟨rfl, hb4⟩
    have B4 := hide (bel_step B3.out hb4 B3.out.size)
    clear hb4
    go_wp2_with fail
    go_ret
    exact ⟨rfl, B4.out⟩
  · have hse : S.toList.isEmpty = false := by
      rw [ByteArray.toList_eq]
      simp only [List.isEmpty_eq_false_iff, ne_eq]
      intro e
      exact hs (ByteArray.ext (Array.toList_inj.1 e))
    have hno : nameOp S = x := by rw [← hS]; exact nameOp_opName (by rw [hS]; exact hs)
    rw [hno] at cN
    clear hS hno hs
    have hxx : (x == x) = true := by simp
    go_wp2_with fail
    refine (cN.out _ HT3.out).mono ?_
    rintro e w4 ⟨rfl, hb4⟩
    have B4 := hide (bel_step B3.out hb4 B3.out.size)
    clear hb4
    go_wp2_with fail
    go_ret
    exact ⟨rfl, B4.out⟩
theorem fnOps_walk (A0 : Option Addr) (n0 c0 : Nat) (bs0 : List Int) (w : World) (w0 : IsNums .u8 w A0 n0 c0 bs0) (hL : laidMetH Tryd.prog Rows.fnOpsRow.laid w) : Calls Tryd.prog 8 #[.slice A0 n0 c0] w fun e w' => e = .returned (.bool true) ∧ Below w.heap.size w w' := by
  have HT := hide (space_tab (rest := []) (laidMet.tail hL))
  have hx : ∀ x ∈ bs0, 0 ≤ x ∧ x ≤ 255 := fun x h => u8_of_wf (w0.wf x h)
  have hm : n0 ≤ 9223372036854775807 := by have := w0.max; have := w0.le; unfold maxLen at *; omega
  by_cases hn : 1048576 < n0
  · exact fnOps_long A0 n0 c0 w hn hm
  · exact fnOps_core n0 c0 A0 bs0 w (by omega) (hide (by omega)) w0.rd hx HT
end Go.Proofs.YtjncpjibkjncaaaDoor
