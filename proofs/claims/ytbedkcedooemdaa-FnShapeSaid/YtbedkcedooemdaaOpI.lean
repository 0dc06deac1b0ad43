/- The program's list of all operations, and where a number stands in a list: a contract each. -/
import Derived.Test.YtbedkcedooemdaaOpC
import Derived.Test.YtbedkcedooemdaaNumC
namespace Go.Proofs.Ytbedkcedooemdaa.Ops
open Go.RowKit Go.Proofs.Ytbedkcedooemdaa.Num Go.Proofs.Ytbedkcedooemdaa.NumC Go.Proofs.Ytbedkcedooemdaa.Mem
set_option linter.unusedVariables false

theorem EIo : Elem Try.prog 33 3 (.int .i64 0) 1 8 := Elem.mk_ Try.underlying33 (by kernel_rfl) rfl (by omega) (by omega)
theorem one64o (x : Int) : ∀ u ∈ (#[Value.int .i64 x] : Array Value).toList, u.oneCell' = true := by
  intro u hu
  simp only [List.mem_singleton] at hu
  subst hu
  rfl
theorem in64_appo (xs ys : List Int) : in64 (xs ++ ys) = in64 xs ++ in64 ys := by simp [in64]
/-- the first place of a value in a list, told by what is known of it -/
def First (l : List Int) (v r : Int) : Prop := (r = -1 ∧ v ∉ l) ∨ (∃ k : Nat, r = k ∧ l[k]? = some v ∧ ∀ j, j < k → l[j]? ≠ some v)
end Go.Proofs.Ytbedkcedooemdaa.Ops
