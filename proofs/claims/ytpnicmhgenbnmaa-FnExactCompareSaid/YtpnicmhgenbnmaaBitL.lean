/- The laws on Bits and Compare, walked by the contracts of what they call. -/
import Derived.Test.YtpnicmhgenbnmaaBitC
namespace Go.Proofs.Ytpnicmhgenbnmaa
open Go.RowKit Go.Proofs.Ytpnicmhgenbnmaa.Num Go.Proofs.Ytpnicmhgenbnmaa.NumC Go.Proofs.Ytpnicmhgenbnmaa.BitC
set_option linter.unusedVariables false

theorem fnExactBits_walk (a0 a1 a2 : Int) (w : World) (w0 : (Lit.int .i64 a0).wf = true) (w1 : (Lit.int .i64 a1).wf = true) (w2 : (Lit.int .i64 a2).wf = true) : Calls Try.prog 5 #[.int .i64 a0, .int .i64 a1, .int .i64 a2] w fun e w' => e = .returned (.bool true) ∧ Below w.heap.size w w' := by
  clear w0 w1 w2
  go_enter Try.func5, Try.ntmps5
  go_wp2_with (first | (go_at_call 21; refine (sBits _ _ _ _).mono ?_; rintro e w' ⟨rfl, n, rfl⟩) | (go_at_call 22; refine (iBits _ _ _ _).mono ?_; rintro e w' ⟨rfl, rfl⟩))
  go_ret
  exact ⟨rfl, Qt.below ⟨_, rfl⟩ _⟩
theorem fnExactCompare_walk (a0 a1 a2 : Int) (w : World) (w0 : (Lit.int .i64 a0).wf = true) (w1 : (Lit.int .i64 a1).wf = true) (w2 : (Lit.int .i64 a2).wf = true) : Calls Try.prog 6 #[.int .i64 a0, .int .i64 a1, .int .i64 a2] w fun e w' => e = .returned (.bool true) ∧ Below w.heap.size w w' := by
  clear w0 w1 w2
  go_enter Try.func6, Try.ntmps6
  go_wp2_with (first | (go_at_call 23; refine (sCmp _ _ _ _).mono ?_; rintro e w' ⟨rfl, rfl⟩) | (go_at_call 24; refine (iCmp _ _ _ _).mono ?_; rintro e w' ⟨rfl, rfl⟩))
  go_ret
  exact ⟨rfl, Below.refl _ _⟩
end Go.Proofs.Ytpnicmhgenbnmaa
