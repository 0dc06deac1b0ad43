/- The laws on Pop, Clz and Ctz, walked by the contracts of what they call. -/
import Derived.Test.YtlppacfidfjmcaaPopC
namespace Go.Proofs.Ytlppacfidfjmcaa
open Go.RowKit Go.Proofs.Ytlppacfidfjmcaa.PopC
set_option linter.unusedVariables false

theorem fnExactPop_walk (a0 : Int) (w : World) (w0 : (Lit.int .i64 a0).wf = true) : Calls Try.prog 9 #[.int .i64 a0] w fun e w' => e = .returned (.bool true) ∧ Below w.heap.size w w' := by
  clear w0
  go_enter Try.func9, Try.ntmps9
  go_wp2_with (first | (go_at_call 24; refine (sPop _ _).mono ?_; rintro e w' ⟨rfl, rfl⟩) | (go_at_call 25; refine (iPop _ _).mono ?_; rintro e w' ⟨rfl, n, rfl⟩))
  go_ret
  exact ⟨rfl, ⟨rfl, rfl, rfl, Nat.le_refl _, fun _ _ => rfl⟩⟩
theorem fnExactClz_walk (a0 : Int) (w : World) (w0 : (Lit.int .i64 a0).wf = true) : Calls Try.prog 10 #[.int .i64 a0] w fun e w' => e = .returned (.bool true) ∧ Below w.heap.size w w' := by
  clear w0
  go_enter Try.func10, Try.ntmps10
  go_wp2_with (first | (go_at_call 26; refine (sClz _ _).mono ?_; rintro e w' ⟨rfl, rfl⟩) | (go_at_call 27; refine (iClz _ _).mono ?_; rintro e w' ⟨rfl, rfl⟩))
  go_ret
  exact ⟨rfl, Below.refl _ _⟩
end Go.Proofs.Ytlppacfidfjmcaa
