/- The laws' own helpers on slices of bytes: copies, comparisons, marks: a contract each. -/
import Derived.Test.YtbedkcedooemdaaChecked
import Derived.Test.YtbedkcedooemdaaApp
import Derived.Test.YtbedkcedooemdaaNum
import Derived.WalkSpells
import Derived.Deep.QuietTactic
import Derived.BigQuiet
namespace Go.Proofs.Ytbedkcedooemdaa.Mem
open Go.RowKit Go.Proofs.Ytbedkcedooemdaa.Num

theorem E8 : Elem Try.prog 22 5 (.int .u8 0) 1 1 := Elem.mk_ Try.underlying22 (by kernel_rfl) rfl (by omega) (by omega)

/-- a new slice that the call made, with the cells xs -/
def Fresh (e size n : Nat) (xs : List Value) (w : World) (en : Ending) (w' : World) : Prop :=
  ∃ A c, en = .returned (.slice A n c) ∧ Ow w' w.heap.size e size A n c xs ∧ Below w.heap.size w w'

theorem made8 (n : Nat) : (madeCells (Value.int .u8 0).cells (n * 1)).toList = List.replicate n (.int .u8 0) := by rw [Nat.mul_one]; exact toList_madeCells_one _ _
theorem set_step {α : Type} (xs : List α) (z : α) (n k : Nat) (h : xs.length = n) (hk : k < n) : (xs.take k ++ List.replicate (n - k) z).set k (xs[k]'(by omega)) = xs.take (k + 1) ++ List.replicate (n - (k + 1)) z := by
  obtain ⟨m, hm⟩ : ∃ m, n - k = m + 1 := ⟨n - k - 1, by omega⟩
  have hl : (xs.take k).length = k := by simp; omega
  rw [List.set_append, if_neg (by omega), hl, Nat.sub_self, hm, List.replicate_succ, List.set_cons_zero, show n - (k + 1) = m from by omega]
  have h5 : xs.take (k + 1) = xs.take k ++ [xs[k]'(by omega)] := List.take_succ_eq_append_getElem (by omega)
  rw [h5, List.append_assoc]
  rfl


/-- the marks k, k + 1, .. -/
def marks (k : Int) (n : Nat) : List Int := (List.range n).map fun j : Nat => (k + (j : Int)) % 256
theorem marks_len (k : Int) (n : Nat) : (marks k n).length = n := by simp [marks]
theorem marks_succ (k : Int) (n : Nat) : marks k (n + 1) = marks k n ++ [(k + (n : Int)) % 256] := by simp [marks, List.range_succ]
theorem mark_step (k : Int) (j n : Nat) (xs : List Value) (h : xs.length = n) (hj : j < n) : (by8 (marks k j) ++ xs.drop j).set j (.int .u8 ((k + (j : Int)) % 256)) = by8 (marks k (j + 1)) ++ xs.drop (j + 1) := by
  have hl : (by8 (marks k j)).length = j := by simp [by8, marks_len]
  rw [List.set_append, if_neg (by omega), hl, Nat.sub_self, List.drop_eq_getElem_cons (by omega), List.set_cons_zero, marks_succ]
  simp [by8]
theorem marks_get (k : Int) (n j : Nat) (h : j < (marks k n).length) : (marks k n)[j] = (k + j) % 256 := by simp [marks]

end Go.Proofs.Ytbedkcedooemdaa.Mem
