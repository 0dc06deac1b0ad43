/- The laws on numbers of 32 bits, walked by the contracts of what they call. -/
import Derived.Test.YtpnicmhgenbnmaaNumC
namespace Go.Proofs.Ytpnicmhgenbnmaa
open Go.RowKit Go.Proofs.Ytpnicmhgenbnmaa.Num Go.Proofs.Ytpnicmhgenbnmaa.NumC
set_option linter.unusedVariables false

theorem fnExactDivS_walk (a0 a1 : Int) (w : World) (w0 : (Lit.int .i64 a0).wf = true) (w1 : (Lit.int .i64 a1).wf = true) : Calls Try.prog 3 #[.int .i64 a0, .int .i64 a1] w fun e w' => e = .returned (.bool true) ∧ Below w.heap.size w w' := by
  clear w0 w1
  by_cases h : wrap32 a1 = 0
  · have H := hide h
    clear h
    go_enter Try.func3, Try.ntmps3
    go_wp2_with (first | (go_at_call 15; refine (sDivS_no _ _ _ H.out).mono ?_; rintro e w' ⟨rfl, rfl⟩) | (go_at_call 16; refine (iDivS_no _ _ _ H.out).mono ?_; rintro e w' ⟨rfl, rfl⟩))
    go_ret
    exact ⟨rfl, Below.refl _ _⟩
  · by_cases h2 : wrap32 a0 = -2147483648 ∧ wrap32 a1 = -1
    · obtain ⟨h3, h4⟩ := h2
      have H3 := hide h3
      have H4 := hide h4
      clear h3 h4 h
      go_enter Try.func3, Try.ntmps3
      go_wp2_with (first | (go_at_call 15; refine (sDivS_over _ _ _ H3.out H4.out).mono ?_; rintro e w' ⟨rfl, rfl⟩) | (go_at_call 16; refine (iDivS_over _ _ _ H3.out H4.out).mono ?_; rintro e w' ⟨rfl, rfl⟩))
      go_ret
      exact ⟨rfl, Below.refl _ _⟩
    · have H := hide h
      have H2 := hide h2
      clear h h2
      go_enter Try.func3, Try.ntmps3
      go_wp2_with (first | (go_at_call 15; refine (sDivS _ _ _ H.out (fun x y => H2.out ⟨x, y⟩)).mono ?_; rintro e w' ⟨rfl, rfl⟩) | (go_at_call 16; refine (iDivS _ _ _ H.out (fun x y => H2.out ⟨x, y⟩)).mono ?_; rintro e w' ⟨rfl, rfl⟩))
      go_ret
      exact ⟨rfl, Below.refl _ _⟩
end Go.Proofs.Ytpnicmhgenbnmaa
