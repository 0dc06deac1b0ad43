/- Bodies: lists of instructions in memory (three cells each); the laws' own copies and comparisons of them: a contract each. -/
import Derived.Test.YtbedkcedooemdaaChecked
import Derived.Test.YtbedkcedooemdaaBytes
import Derived.Test.YtbedkcedooemdaaNum
import Derived.Test.YtbedkcedooemdaaShapeN
import Derived.WalkSpells
import Derived.Deep.QuietTactic
import Derived.BigQuiet
import Derived.Deep.RegionHeld3
import Derived.StillTailTactics
namespace Go.Proofs.Ytbedkcedooemdaa.Mem
open Go.RowKit Go.Proofs.Ytbedkcedooemdaa.Num Go.Proofs.Ytbedkcedooemdaa.Shape

def insC : List Ins3 → List Value
  | [] => []
  | i :: l => .int .i64 i.1 :: .int .i64 i.2.1 :: .int .i64 i.2.2 :: insC l
theorem insC_len : ∀ l : List Ins3, (insC l).length = l.length * 3
  | [] => rfl
  | i :: l => by simp [insC, insC_len l]; omega
theorem insC_get : ∀ (l : List Ins3) (k : Nat) (h : k < l.length), (insC l)[k * 3]? = some (.int .i64 l[k].1) ∧ (insC l)[k * 3 + 1]? = some (.int .i64 l[k].2.1) ∧ (insC l)[k * 3 + 2]? = some (.int .i64 l[k].2.2)
  | [], k, h => by simp at h
  | i :: l, 0, h => by simp [insC]
  | i :: l, k + 1, h => by
    have := insC_get l k (by simpa using h)
    rw [Nat.succ_mul]
    simpa [insC, Nat.add_assoc] using this
theorem insC_app : ∀ l m : List Ins3, insC (l ++ m) = insC l ++ insC m
  | [], m => rfl
  | i :: l, m => by simp [insC, insC_app l m]
theorem rd_ins {w : World} {B n : Nat} {A : Option Addr} {l : List Ins3} (h : Rd w B 3 A n (insC l)) : l.length = n := by
  have := h.1
  rw [insC_len] at this
  omega
theorem E3 : Elem Try.prog 23 27 (.agg #[.int .i64 0, .int .i64 0, .int .i64 0]) 3 24 := Elem.mk_ Try.underlying23 (by kernel_rfl) rfl (by omega) (by omega)

theorem insC_rep_get (n j : Nat) (h : j < n * 3) : (insC (List.replicate n (0, 0, 0)))[j]? = some (.int .i64 0) := by
  obtain ⟨q0, q1, q2⟩ := insC_get (List.replicate n (0, 0, 0)) (j / 3) (by simp; omega)
  simp only [List.getElem_replicate] at q0 q1 q2
  rcases (by omega : j = j / 3 * 3 ∨ j = j / 3 * 3 + 1 ∨ j = j / 3 * 3 + 2) with e | e | e <;> rw [e] <;> assumption
theorem made3 (n : Nat) : (madeCells (Value.agg #[.int .i64 0, .int .i64 0, .int .i64 0]).cells (n * 3)).toList = insC (List.replicate n (0, 0, 0)) := by
  apply List.ext_getElem?
  intro j
  by_cases hj : j < n * 3
  · rw [insC_rep_get n j hj]
    have h3 : j % 3 < 3 := Nat.mod_lt _ (by omega)
    simp [madeCells, Value.cells, hj]
    rcases (by omega : j % 3 = 0 ∨ j % 3 = 1 ∨ j % 3 = 2) with e | e | e <;> simp [e]
  · rw [List.getElem?_eq_none (by simp [madeCells]; omega), List.getElem?_eq_none (by rw [insC_len]; simp; omega)]
theorem ins_set : ∀ (l : List Ins3) (m : List Ins3) (i z : Ins3) (k : Nat) (_ : k = l.length * 3),
    (((insC (l ++ z :: m)).set k (.int .i64 i.1)).set (k + 1) (.int .i64 i.2.1)).set (k + 2) (.int .i64 i.2.2) = insC (l ++ i :: m)
  | [], m, i, z, k, hk => by
    have : k = 0 := by simpa using hk
    subst this
    simp [insC]
  | x :: l, m, i, z, k, hk => by
    have h := ins_set l m i z (l.length * 3) rfl
    have : k = l.length * 3 + 3 := by simp only [List.length_cons] at hk; omega
    subst this
    simp only [List.cons_append, insC]
    simp only [List.set_cons_succ, Nat.add_assoc, Nat.reduceAdd]
    rw [← h]
theorem own_cell {w : World} {base e size n c g : Nat} {xs : List Value} (h : Ow w base e size (some ⟨g, 0, none⟩) n c xs) (j : Nat) (hj : j < n * size) : ∃ u, w.cell? ⟨g, j, none⟩ = some u := by
  have hx0 : w.cell? ⟨g, j, none⟩ = _ := World.ownsRow.cellAt h j hj
  rw [hx0]
  exact ⟨_, List.getElem?_eq_getElem (by have := h.1; omega)⟩
end Go.Proofs.Ytbedkcedooemdaa.Mem
