/- What the program's and the reference's functions on numbers of 32 bits compute: a contract each. -/
import Derived.Test.YtbedkcedooemdaaChecked
import Derived.WalkKit
import Derived.Test.YtbedkcedooemdaaNum
namespace Go.Proofs.Ytbedkcedooemdaa.NumC
open Go.RowKit Go.Proofs.Ytbedkcedooemdaa.Num

theorem ret_int {k : IntKind} {a b : Int} (h : a = b) : Ending.returned (.int k a) = .returned (.int k b) := by rw [h]
theorem ret_two {k : IntKind} {a b c d : Int} (h : a = b) (h' : c = d) : Ending.returned (.tuple #[.int k a, .int k c]) = .returned (.tuple #[.int k b, .int k d]) := by rw [h, h']

theorem sPlain (n : Int) (w : World) : Calls Try.prog 24 #[.int .i64 n] w fun e w' => e = .returned (.int .i64 (n % 4294967296)) ∧ w = w' := by
  go_enter Try.func24, Try.ntmps24
  go_wp2
  go_ret
  exact ⟨ret_int (and_mask n), rfl⟩
theorem sWrap (n : Int) (w : World) : Calls Try.prog 22 #[.int .i64 n] w fun e w' => e = .returned (.int .i64 (wrap32 n)) ∧ w = w' := by
  have hb := mod_bd n
  by_cases h : 2147483647 < n % 4294967296
  · have hw := w32_hi h
    go_enter Try.func22, Try.ntmps22
    go_wp2_with (go_at_call 24; refine (sPlain _ _).mono ?_; rintro e w' ⟨rfl, rfl⟩)
    go_ret
    exact ⟨rfl, rfl⟩
  · have hw := w32_lo (by omega : n % 4294967296 ≤ 2147483647)
    go_enter Try.func22, Try.ntmps22
    go_wp2_with (go_at_call 24; refine (sPlain _ _).mono ?_; rintro e w' ⟨rfl, rfl⟩)
    go_ret
    exact ⟨rfl, rfl⟩
end Go.Proofs.Ytbedkcedooemdaa.NumC
