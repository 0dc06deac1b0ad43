/- What the program's and the reference's functions on numbers of 32 bits compute: a contract each. -/
import Derived.Test.YtflecejioaokmaaChecked
import Derived.WalkKit
import Derived.Test.YtflecejioaokmaaNum
namespace Go.Proofs.Ytflecejioaokmaa.NumC
open Go.RowKit Go.Proofs.Ytflecejioaokmaa.Num

theorem ret_int {k : IntKind} {a b : Int} (h : a = b) : Ending.returned (.int k a) = .returned (.int k b) := by rw [h]
theorem ret_two {k : IntKind} {a b c d : Int} (h : a = b) (h' : c = d) : Ending.returned (.tuple #[.int k a, .int k c]) = .returned (.tuple #[.int k b, .int k d]) := by rw [h, h']

theorem iPlain (n : Int) (w : World) : Calls Try.prog 14 #[.int .i64 n] w fun e w' => e = .returned (.int .i64 (n % 4294967296)) ∧ w = w' := by
  go_enter Try.func14, Try.ntmps14
  go_wp2
  go_ret
  exact ⟨ret_int (rfl), rfl⟩
theorem sPlain (n : Int) (w : World) : Calls Try.prog 86 #[.int .i64 n] w fun e w' => e = .returned (.int .i64 (n % 4294967296)) ∧ w = w' := by
  go_enter Try.func86, Try.ntmps86
  go_wp2
  go_ret
  exact ⟨ret_int (and_mask n), rfl⟩
theorem iWrap (n : Int) (w : World) : Calls Try.prog 16 #[.int .i64 n] w fun e w' => e = .returned (.int .i64 (wrap32 n)) ∧ w = w' := by
  go_enter Try.func16, Try.ntmps16
  go_wp2
  go_ret
  have := w32_bd n
  exact ⟨ret_int (IntWalk.wrap64_in _ (by omega)), rfl⟩
theorem sWrap (n : Int) (w : World) : Calls Try.prog 58 #[.int .i64 n] w fun e w' => e = .returned (.int .i64 (wrap32 n)) ∧ w = w' := by
  have hb := mod_bd n
  by_cases h : 2147483647 < n % 4294967296
  · have hw := w32_hi h
    go_enter Try.func58, Try.ntmps58
    go_wp2_with (go_at_call 86; refine (sPlain _ _).mono ?_; rintro e w' ⟨rfl, rfl⟩)
    go_ret
    exact ⟨rfl, rfl⟩
  · have hw := w32_lo (by omega : n % 4294967296 ≤ 2147483647)
    go_enter Try.func58, Try.ntmps58
    go_wp2_with (go_at_call 86; refine (sPlain _ _).mono ?_; rintro e w' ⟨rfl, rfl⟩)
    go_ret
    exact ⟨rfl, rfl⟩
end Go.Proofs.Ytflecejioaokmaa.NumC
