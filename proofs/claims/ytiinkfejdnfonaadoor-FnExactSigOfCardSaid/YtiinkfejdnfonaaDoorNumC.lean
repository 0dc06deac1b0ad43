/- What the program's and the reference's functions on numbers of 32 bits compute: a contract each. -/
import Derived.Test.YtiinkfejdnfonaaDoorChecked
import Derived.WalkKit
import Derived.Test.YtiinkfejdnfonaaDoorNum
namespace Go.Proofs.YtiinkfejdnfonaaDoor.NumC
open Go.RowKit Go.Proofs.YtiinkfejdnfonaaDoor.Num

theorem ret_int {k : IntKind} {a b : Int} (h : a = b) : Ending.returned (.int k a) = .returned (.int k b) := by rw [h]
theorem ret_two {k : IntKind} {a b c d : Int} (h : a = b) (h' : c = d) : Ending.returned (.tuple #[.int k a, .int k c]) = .returned (.tuple #[.int k b, .int k d]) := by rw [h, h']

theorem sPlain (n : Int) (w : World) : Calls Tryd.prog 93 #[.int .i64 n] w fun e w' => e = .returned (.int .i64 (n % 4294967296)) ∧ w = w' := by
  go_enter Tryd.func93, Tryd.ntmps93
  go_wp2
  go_ret
  exact ⟨ret_int (and_mask n), rfl⟩
theorem iWrap (n : Int) (w : World) : Calls Tryd.prog 110 #[.int .i64 n] w fun e w' => e = .returned (.int .i64 (wrap32 n)) ∧ w = w' := by
  go_enter Tryd.func110, Tryd.ntmps110
  go_wp2
  go_ret
  have := w32_bd n
  exact ⟨ret_int (IntWalk.wrap64_in _ (by omega)), rfl⟩
theorem sWrap (n : Int) (w : World) : Calls Tryd.prog 47 #[.int .i64 n] w fun e w' => e = .returned (.int .i64 (wrap32 n)) ∧ w = w' := by
  have hb := mod_bd n
  by_cases h : 2147483647 < n % 4294967296
  · have hw := w32_hi h
    go_enter Tryd.func47, Tryd.ntmps47
    go_wp2_with (go_at_call 93; refine (sPlain _ _).mono ?_; rintro e w' ⟨rfl, rfl⟩)
    go_ret
    exact ⟨rfl, rfl⟩
  · have hw := w32_lo (by omega : n % 4294967296 ≤ 2147483647)
    go_enter Tryd.func47, Tryd.ntmps47
    go_wp2_with (go_at_call 93; refine (sPlain _ _).mono ?_; rintro e w' ⟨rfl, rfl⟩)
    go_ret
    exact ⟨rfl, rfl⟩
end Go.Proofs.YtiinkfejdnfonaaDoor.NumC
