/- The law on numbers in pieces, walked: what is written is read. -/
import Derived.Test.YtfhdaiijmkfijaaDrawG
import Derived.Test.YtfhdaiijmkfijaaPutC
import Derived.Test.YtfhdaiijmkfijaaGetC
import Derived.Test.YtfhdaiijmkfijaaLebN
import Derived.Test.YtfhdaiijmkfijaaOpen
namespace Go.Proofs.Ytfhdaiijmkfijaa
open Go.RowKit Go.Proofs.Ytfhdaiijmkfijaa.Num Go.Proofs.Ytfhdaiijmkfijaa.NumC Go.Proofs.Ytfhdaiijmkfijaa.Mem Go.Proofs.Ytfhdaiijmkfijaa.Draw Go.Proofs.Ytfhdaiijmkfijaa.Leb Go.Proofs.Ytfhdaiijmkfijaa.PutC
set_option linter.unusedVariables false

/-- bytes and a number, drawn -/
def BytesNum (m : Nat) (w : World) (e : Ending) (w' : World) : Prop :=
  ∃ (B : Option Addr) (n d : Nat) (l : List Int) (k : Int), e = .returned (.tuple #[.slice B n d, .int .i64 k]) ∧ n ≤ m ∧ (∀ x ∈ l, 0 ≤ x ∧ x ≤ 255) ∧ Rd w' w'.heap.size 1 B n (by8 l) ∧ Below w.heap.size w w'
theorem DrawPutU_c (A : Option Addr) (n c : Nat) (bs : List Int) (w : World) (hr : Rd w w.heap.size 1 A n (by8 bs)) (hn : n ≤ 1048576) (hx : ∀ x ∈ bs, 0 ≤ x ∧ x ≤ 255) :
    Calls Try.prog 14 #[.slice A n c] w (BytesNum 4 w) := by
  go_enter Try.func14, Try.ntmps14
  go_wp2_with fail
  refine (new_c A n c bs w hr hn hx).mono ?_
  rintro e w1 ⟨g, rfl, hg, hc1, hb1⟩
  clear hr hx
  go_wp2_with fail
  refine (bytes_g g A n c bs w1 4 (by omega) hc1).mono ?_
  rintro e w2 ⟨B, d, l, rfl, hl, hx, ho, hc2, hg2⟩
  have hgl := cur_lt hc1
  have HO := hide ho
  have HX := hide hx
  clear ho hx
  go_wp2_with fail
  refine (raw_g g A n c bs w2 w2 hc2 (World.grownBy.refl _ _)).mono ?_
  rintro e w3 ⟨k, rfl, _, hc3, hg3⟩
  go_wp2_with fail
  go_ret2
  refine ⟨B, l.length, d, l, k, rfl, hl, HX.out, ?_, hb1.trans (gr_below (grown_trans hg2 hg3) hg (by omega))⟩
  refine (HO.out.kept hg3 ?_).rd
  rcases hbk : blk B with _ | b
  · exact .inl rfl
  · exact .inr (by have := (HO.out.blk_lt b hbk).1; simp; omega)
theorem fnLeb_long (A : Option Addr) (n c : Nat) (w : World) (hn : 1048576 < n) (hm : n ≤ 9223372036854775807) : Calls Try.prog 3 #[.slice A n c] w fun e w' => e = .returned (.bool true) ∧ Below w.heap.size w w' := by
  have hn' : (1048576 : Int) < n := by omega
  clear hn
  go_enter Try.func3, Try.ntmps3
  go_wp2_with fail
  go_ret
  exact ⟨rfl, Below.refl _ _⟩
theorem fnLeb_core (n c : Nat) (A0 : Option Addr) (bs0 : List Int) (w : World) (hn : (n : Int) ≤ 1048576) (HN : Hid (n ≤ 1048576)) (HR : Hid (Rd w w.heap.size 1 A0 n (by8 bs0))) (HX : Hid (∀ x ∈ bs0, 0 ≤ x ∧ x ≤ 255)) :
    Calls Try.prog 3 #[.slice A0 n c] w fun e w' => e = .returned (.bool true) ∧ Below w.heap.size w w' := by
  go_enter Try.func3, Try.ntmps3
  go_wp2_with fail
  refine (DrawPutU_c A0 n c bs0 w HR.out HN.out HX.out).mono ?_
  rintro e w1 ⟨B, m, d, l, k, rfl, hm, hx, hr, hb1⟩
  have HRB := hide hr
  have HXB := hide hx
  have HM := hide hm
  have HL := hide (show l.length = m by have := hr.1; simp only [by8, List.length_map] at this; omega)
  have B1 := hide hb1
  clear hr hx hm hb1
  obtain ⟨U, hU⟩ : ∃ U, putU 5 (k % 4294967296) = U := ⟨_, rfl⟩
  obtain ⟨S, hS⟩ : ∃ S, putS 5 (wrap32 k) = S := ⟨_, rfl⟩
  obtain ⟨p, hp⟩ : ∃ p, U.length = p := ⟨_, rfl⟩
  obtain ⟨q, hq⟩ : ∃ q, S.length = q := ⟨_, rfl⟩
  have hp5 : p ≤ 5 := by rw [← hp, ← hU]; exact putU_le 5 _
  have hq5 : q ≤ 5 := by rw [← hq, ← hS]; exact putS_le 5 _
  have gU := hide (getU_putU l (k % 4294967296) (mod_bd k).1 (mod_bd k).2)
  have gS := hide (getS_putS l (wrap32 k) (w32_bd k).1 (w32_bd k).2)
  have xU := hide (putU_byte 5 (k % 4294967296) (mod_bd k).1)
  have xS := hide (putS_byte 5 (wrap32 k))
  have c1 := hide (fun (w : World) (hr : Rd w w.heap.size 1 B m (by8 l)) => iPutU B m d l k w hr (by have := HM.out; omega))
  have c2 := hide (fun (w : World) (hr : Rd w w.heap.size 1 B m (by8 l)) => iPutS B m d l k w hr (by have := HM.out; omega))
  have c3 := hide (fun (w : World) (hr : Rd w w.heap.size 1 B m (by8 l)) => sPutU B m d l k w hr (by have := HM.out; omega))
  have c4 := hide (fun (w : World) (hr : Rd w w.heap.size 1 B m (by8 l)) => sPutS B m d l k w hr (by have := HM.out; omega))
  rw [hU, hp] at c1 c3 gU
  rw [hS, hq] at c2 c4 gS
  rw [hU] at xU
  rw [hS] at xS
  rw [HL.out] at gU gS
  have hm' : (m : Int) ≤ 4 := by have := HM.out; omega
  have hp' : (p : Int) ≤ 5 := by omega
  have hq' : (q : Int) ≤ 5 := by omega
  clear hU hS hp hq hp5 hq5
  go_wp2_with fail
  refine (c1.out w1 HRB.out).mono ?_
  rintro e w2 ⟨A2, d2, rfl, ho, hb⟩
  have O2 := hide ho
  have B2 := hide (bel_step B1.out hb B1.out.size)
  have D2 := hide hb
  clear ho hb
  go_wp2_with fail
  refine (c2.out w2 (HRB.out.bel D2.out)).mono ?_
  rintro e w3 ⟨A3, d3, rfl, ho, hb⟩
  have O3 := hide ho
  have B3 := hide (bel_step B2.out hb B2.out.size)
  have D3 := hide (bel_step D2.out hb D2.out.size)
  have O23 := hide (O2.out.below hb (Nat.le_refl _))
  clear ho hb
  go_wp2_with fail
  refine (c3.out w3 (HRB.out.bel D3.out)).mono ?_
  rintro e w4 ⟨A4, d4, rfl, ho, hb⟩
  have B4 := hide (bel_step B3.out hb B3.out.size)
  have D4 := hide (bel_step D3.out hb D3.out.size)
  have O24 := hide (O23.out.below hb (Nat.le_refl _))
  have O34 := hide (O3.out.below hb (Nat.le_refl _))
  clear ho hb
  go_wp2_with fail
  refine (c4.out w4 (HRB.out.bel D4.out)).mono ?_
  rintro e w5 ⟨A5, d5, rfl, ho, hb⟩
  have B5 := hide (bel_step B4.out hb B4.out.size)
  have O25 := hide (O24.out.below hb (Nat.le_refl _))
  have O35 := hide (O34.out.below hb (Nat.le_refl _))
  clear ho hb
  have XU := hide (fun x (h : x ∈ l ++ U) => (List.mem_append.1 h).elim (HXB.out x) (xU.out x))
  have XS := hide (fun x (h : x ∈ l ++ S) => (List.mem_append.1 h).elim (HXB.out x) (xS.out x))
  go_wp2_with fail
  refine (GetC.iGetU A2 (m + p) d2 (l ++ U) m w5 O25.out.rd XU.out (by omega)).mono ?_
  rintro e w6 ⟨he, rfl⟩
  unfold GetC.Gives at he
  rw [gU.out] at he
  subst he
  go_wp2_with fail
  refine (GetC.iGetS A3 (m + q) d3 (l ++ S) m w5 O35.out.rd XS.out (by omega)).mono ?_
  rintro e w6 ⟨he, rfl⟩
  unfold GetC.Gives at he
  rw [gS.out] at he
  subst he
  go_wp2_with (first | (go_at_call 22; refine (iWrap _ _).mono ?_; rintro e w' ⟨rfl, rfl⟩) | (go_at_call 21; refine (iPlain _ _).mono ?_; rintro e w' ⟨rfl, rfl⟩))
  go_ret
  refine ⟨?_, B5.out⟩
  show Ending.returned (.bool (decide ((m : Int) + q - m ≤ 5))) = _
  rw [decide_eq_true (by omega)]
theorem fnLeb_walk (A0 : Option Addr) (n0 c0 : Nat) (bs0 : List Int) (w : World) (w0 : IsNums .u8 w A0 n0 c0 bs0) : Calls Try.prog 3 #[.slice A0 n0 c0] w fun e w' => e = .returned (.bool true) ∧ Below w.heap.size w w' := by
  have hx : ∀ x ∈ bs0, 0 ≤ x ∧ x ≤ 255 := fun x h => u8_of_wf (w0.wf x h)
  have hm : n0 ≤ 9223372036854775807 := by have := w0.max; have := w0.le; unfold maxLen at *; omega
  by_cases hn : 1048576 < n0
  · exact fnLeb_long A0 n0 c0 w hn hm
  · exact fnLeb_core n0 c0 A0 bs0 w (by omega) (hide (by omega)) w0.rd hx
end Go.Proofs.Ytfhdaiijmkfijaa
