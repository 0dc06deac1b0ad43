/- The law on ShapeOk, walked. -/
import Derived.Test.YtfhdaiijmkfijaaShapeC
import Derived.Test.YtfhdaiijmkfijaaBodyL
namespace Go.Proofs.Ytfhdaiijmkfijaa
open Go.ChangeShapes Go.WideShapes Go.Deep Go.RowKit Go.Proofs.Ytfhdaiijmkfijaa.Num Go.Proofs.Ytfhdaiijmkfijaa.Mem Go.Proofs.Ytfhdaiijmkfijaa.Shape Go.Proofs.Ytfhdaiijmkfijaa.Body
set_option linter.unusedVariables false
theorem fnExactShapeOk_core (A : Option Addr) (n c : Nat) (l : List Ins3) (w : World) (hm : n ≤ maxLen) (hr : Rd w w.heap.size 3 A n (insC l)) :
    Calls Try.prog 8 #[.slice A n c] w fun e w' => e = .returned (.bool true) ∧ Below w.heap.size w w' := by
  have hm' : (n : Int) ≤ 9223372036854775807 := by unfold maxLen at hm; omega
  have HR := hide hr
  clear hr hm
  go_enter Try.func8, Try.ntmps8
  go_wp2_with fail
  refine (szInsS_c A n c _ w (by omega) (by omega) (by omega)).mono ?_
  rintro e w0 ⟨⟨h, rfl⟩ | ⟨h, rfl⟩, rfl⟩
  · go_wp2_with fail
    go_ret
    exact ⟨rfl, Below.refl _ _⟩
  · have HN := hide (show n ≤ 1048576 by omega)
    obtain ⟨left, hleft⟩ : ∃ left : Int, 1048576 - (n : Int) = left := ⟨_, rfl⟩
    have hl0 : 0 ≤ left := by omega
    rw [hleft]
    clear hleft h hm'
    go_wp2_with fail
    refine (toInsS_c A n c l _ HR.out HN.out).mono ?_
    rintro e w1 ⟨A1, c1, rfl, ho, hb⟩
    have O1 := hide ho
    have B1 := hide hb
    clear ho hb
    go_wp2_with fail
    refine (sShapeOk A1 n c1 l w1 O1.out.rd HN.out).mono ?_
    rintro e w2 ⟨rfl, hb⟩
    have B2 := hide (bel_step B1.out hb B1.out.size)
    clear hb
    obtain ⟨R, hR⟩ : ∃ R, shapeOk l = R := ⟨_, rfl⟩
    rw [hR]
    go_wp2_with fail
    refine (toInsS_c A n c l _ (HR.out.bel B2.out) HN.out).mono ?_
    rintro e w3 ⟨A3, c3, rfl, ho, hb⟩
    have O3 := hide ho
    have B3 := hide (bel_step B2.out hb B2.out.size)
    clear ho hb
    go_wp2_with fail
    refine (iShapeOk A3 n c3 l w3 O3.out.rd HN.out).mono ?_
    rintro e w4 ⟨rfl, hb⟩
    have B4 := hide (bel_step B3.out hb B3.out.size)
    have O4 := hide (O3.out.below hb (Nat.le_refl _))
    clear hb
    rw [hR]
    go_wp2_with fail
    refine (toInsS_c A n c l _ (HR.out.bel B4.out) HN.out).mono ?_
    rintro e w5 ⟨A5, c5, rfl, ho, hb⟩
    have O5 := hide ho
    have O35 := hide (O4.out.below hb (Nat.le_refl _))
    have B5 := hide (bel_step B4.out hb B4.out.size)
    clear ho hb
    go_wp2_with fail
    refine (eqInsS_c A3 A5 n c3 c5 l w5 O35.out.rd O5.out.rd HN.out).mono ?_
    rintro e w6 ⟨rfl, hb⟩
    have B6 := hide (bel_step B5.out hb B5.out.size)
    clear hb
    go_wp2_with fail
    go_ret
    exact ⟨rfl, B6.out⟩
theorem fnExactShapeOk_walk (a0 : Option Addr × Nat × Nat × List Ins3) (w : World) (w0 : a0.2.1 ≤ maxLen ∧ Rd w w.heap.size 3 a0.1 a0.2.1 (insC a0.2.2.2)) :
    Calls Try.prog 8 #[.slice a0.1 a0.2.1 a0.2.2.1] w fun e w' => e = .returned (.bool true) ∧ Below w.heap.size w w' :=
  fnExactShapeOk_core _ _ _ a0.2.2.2 w w0.1 w0.2
end Go.Proofs.Ytfhdaiijmkfijaa
