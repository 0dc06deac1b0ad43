/- What the program's and the reference's functions on numbers of 32 bits compute: a contract each. -/
import Derived.Test.YtlppacfidfjmcaaDoorChecked
import Derived.WalkKit
import Derived.Test.YtlppacfidfjmcaaDoorNum
namespace Go.Proofs.YtlppacfidfjmcaaDoor.NumC
open Go.RowKit Go.Proofs.YtlppacfidfjmcaaDoor.Num

theorem ret_int {k : IntKind} {a b : Int} (h : a = b) : Ending.returned (.int k a) = .returned (.int k b) := by rw [h]
theorem ret_two {k : IntKind} {a b c d : Int} (h : a = b) (h' : c = d) : Ending.returned (.tuple #[.int k a, .int k c]) = .returned (.tuple #[.int k b, .int k d]) := by rw [h, h']

theorem sPlain (n : Int) (w : World) : Calls Tryd.prog 6 #[.int .i64 n] w fun e w' => e = .returned (.int .i64 (n % 4294967296)) ∧ w = w' := by
  go_enter Tryd.func6, Tryd.ntmps6
  go_wp2
  go_ret
  exact ⟨ret_int (and_mask n), rfl⟩
end Go.Proofs.YtlppacfidfjmcaaDoor.NumC
