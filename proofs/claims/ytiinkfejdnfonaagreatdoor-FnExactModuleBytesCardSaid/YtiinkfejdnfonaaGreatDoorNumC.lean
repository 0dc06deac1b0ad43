/- What the program's and the reference's functions on numbers of 32 bits compute: a contract each. -/
import Derived.Test.YtiinkfejdnfonaaGreatDoorChecked
import Derived.WalkKit
import Derived.Test.YtiinkfejdnfonaaGreatDoorNum
namespace Go.Proofs.YtiinkfejdnfonaaGreatDoor.NumC
open Go.RowKit Go.Proofs.YtiinkfejdnfonaaGreatDoor.Num

theorem ret_int {k : IntKind} {a b : Int} (h : a = b) : Ending.returned (.int k a) = .returned (.int k b) := by rw [h]
theorem ret_two {k : IntKind} {a b c d : Int} (h : a = b) (h' : c = d) : Ending.returned (.tuple #[.int k a, .int k c]) = .returned (.tuple #[.int k b, .int k d]) := by rw [h, h']

theorem iPlain (n : Int) (w : World) : Calls Tryz.prog 91 #[.int .i64 n] w fun e w' => e = .returned (.int .i64 (n % 4294967296)) ∧ w = w' := by
  go_enter Tryz.func91, Tryz.ntmps91
  go_wp2
  go_ret
  exact ⟨ret_int (rfl), rfl⟩
theorem sPlain (n : Int) (w : World) : Calls Tryz.prog 105 #[.int .i64 n] w fun e w' => e = .returned (.int .i64 (n % 4294967296)) ∧ w = w' := by
  go_enter Tryz.func105, Tryz.ntmps105
  go_wp2
  go_ret
  exact ⟨ret_int (and_mask n), rfl⟩
theorem iWrap (n : Int) (w : World) : Calls Tryz.prog 116 #[.int .i64 n] w fun e w' => e = .returned (.int .i64 (wrap32 n)) ∧ w = w' := by
  go_enter Tryz.func116, Tryz.ntmps116
  go_wp2
  go_ret
  have := w32_bd n
  exact ⟨ret_int (IntWalk.wrap64_in _ (by omega)), rfl⟩
theorem sWrap (n : Int) (w : World) : Calls Tryz.prog 75 #[.int .i64 n] w fun e w' => e = .returned (.int .i64 (wrap32 n)) ∧ w = w' := by
  have hb := mod_bd n
  by_cases h : 2147483647 < n % 4294967296
  · have hw := w32_hi h
    go_enter Tryz.func75, Tryz.ntmps75
    go_wp2_with (go_at_call 105; refine (sPlain _ _).mono ?_; rintro e w' ⟨rfl, rfl⟩)
    go_ret
    exact ⟨rfl, rfl⟩
  · have hw := w32_lo (by omega : n % 4294967296 ≤ 2147483647)
    go_enter Tryz.func75, Tryz.ntmps75
    go_wp2_with (go_at_call 105; refine (sPlain _ _).mono ?_; rintro e w' ⟨rfl, rfl⟩)
    go_ret
    exact ⟨rfl, rfl⟩
end Go.Proofs.YtiinkfejdnfonaaGreatDoor.NumC
