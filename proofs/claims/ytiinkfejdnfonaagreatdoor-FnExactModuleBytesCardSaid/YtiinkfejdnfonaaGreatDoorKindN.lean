/- What an operation has beside it, and which instructions are right: as plain functions. No program in sight. -/
import Derived.Test.YtiinkfejdnfonaaGreatDoorOpN
import Derived.Test.YtiinkfejdnfonaaGreatDoorShapeN
namespace Go.Proofs.YtiinkfejdnfonaaGreatDoor.Ops
open Go.RowKit Go.Proofs.YtiinkfejdnfonaaGreatDoor.Shape

def isIdx (op : Int) : Bool := op == 12 || op == 13 || op == 16 || (decide (32 ≤ op) && decide (op ≤ 36))
def isMem (op : Int) : Bool := op == 40 || op == 54
/-- what an operation has: 1 a number of results, 2 an index, 3 a place in memory, 4 a number, 0 nothing -/
def kind (op : Int) : Int := if isBeg op then 1 else if isIdx op then 2 else if isMem op then 3 else if op = 65 then 4 else 0
def okAB (k a b : Int) : Bool :=
  if k = 1 then decide ((a = 0 ∨ a = 1) ∧ b = 0) else if k = 2 then decide (0 ≤ a ∧ a ≤ 1000 ∧ b = 0) else if k = 3 then decide (0 ≤ a ∧ a ≤ 2147483647 ∧ 0 ≤ b ∧ b ≤ 2)
  else if k = 4 then decide (-2147483648 ≤ a ∧ a ≤ 2147483647 ∧ b = 0) else decide (a = 0 ∧ b = 0)
/-- an instruction is right -/
def insOk (i : Ins3) : Bool := known i.1 && okAB (kind i.1) i.2.1 i.2.2
theorem kind_beg {op : Int} (h : isBeg op = true) : kind op = 1 := by simp [kind, h]
theorem kind_idx {op : Int} (h : isIdx op = true) : kind op = 2 ∧ isBeg op = false := by
  have hb : isBeg op = false := by
    simp only [isIdx, Bool.or_eq_true, Bool.and_eq_true, beq_iff_eq, decide_eq_true_eq] at h
    simp only [isBeg, Bool.or_eq_false_iff, beq_eq_false_iff_ne, ne_eq]
    omega
  exact ⟨by simp [kind, h, hb], hb⟩
theorem kind_mem {op : Int} (h : isMem op = true) : kind op = 3 ∧ isBeg op = false ∧ isIdx op = false := by
  have hh : op = 40 ∨ op = 54 := by simpa [isMem] using h
  rcases hh with rfl | rfl <;> decide
theorem kind_none {op : Int} (h1 : isBeg op = false) (h2 : isIdx op = false) (h3 : isMem op = false) (h4 : op ≠ 65) : kind op = 0 := by simp [kind, h1, h2, h3, h4]
theorem kind_bd (op : Int) : 0 ≤ kind op ∧ kind op ≤ 4 := by
  unfold kind
  repeat' split
  all_goals omega
section
variable {op a b : Int}
theorem ok_un (h : known op = false) : insOk (op, a, b) = false := by simp [insOk, h]
theorem dec_beq (p : Prop) [Decidable p] (x : Int) (h : p ↔ x = 0) : decide p = (x == 0) := by
  by_cases hx : x = 0
  · rw [decide_eq_true (h.2 hx)]; simp [hx]
  · rw [decide_eq_false (fun hp => hx (h.1 hp))]; simp [hx]
theorem ok_k (h : known op = true) : insOk (op, a, b) = okAB (kind op) a b := by simp [insOk, h]
theorem ok1 (h : known op = true) (hk : kind op = 1) (h0 : 0 ≤ a) (h1 : a ≤ 1) : insOk (op, a, b) = (b == 0) := by
  rw [ok_k h, hk, okAB, if_pos rfl]
  exact dec_beq _ _ (by omega)
theorem ok1f (h : known op = true) (hk : kind op = 1) (h0 : a < 0 ∨ 1 < a) : insOk (op, a, b) = false := by
  rw [ok_k h, hk, okAB, if_pos rfl]
  exact decide_eq_false (by omega)
theorem ok2 (h : known op = true) (hk : kind op = 2) (h0 : 0 ≤ a) (h1 : a ≤ 1000) : insOk (op, a, b) = (b == 0) := by
  rw [ok_k h, hk, okAB, if_neg (by omega), if_pos rfl]
  exact dec_beq _ _ (by omega)
theorem ok2f (h : known op = true) (hk : kind op = 2) (h0 : a < 0 ∨ 1000 < a) : insOk (op, a, b) = false := by
  rw [ok_k h, hk, okAB, if_neg (by omega), if_pos rfl]
  exact decide_eq_false (by omega)
theorem ok3 (h : known op = true) (hk : kind op = 3) (h0 : 0 ≤ a) (h1 : a ≤ 2147483647) (h2 : 0 ≤ b) (h3 : b ≤ 2) : insOk (op, a, b) = true := by
  rw [ok_k h, hk, okAB, if_neg (by omega), if_neg (by omega), if_pos rfl]
  exact decide_eq_true (by omega)
theorem ok3f (h : known op = true) (hk : kind op = 3) (h0 : (a < 0 ∨ 2147483647 < a) ∨ (b < 0 ∨ 2 < b)) : insOk (op, a, b) = false := by
  rw [ok_k h, hk, okAB, if_neg (by omega), if_neg (by omega), if_pos rfl]
  exact decide_eq_false (by omega)
theorem ok4 (h : known op = true) (hk : kind op = 4) (h0 : -2147483648 ≤ a) (h1 : a ≤ 2147483647) : insOk (op, a, b) = (b == 0) := by
  rw [ok_k h, hk, okAB, if_neg (by omega), if_neg (by omega), if_neg (by omega), if_pos rfl]
  exact dec_beq _ _ (by omega)
theorem ok4f (h : known op = true) (hk : kind op = 4) (h0 : a < -2147483648 ∨ 2147483647 < a) : insOk (op, a, b) = false := by
  rw [ok_k h, hk, okAB, if_neg (by omega), if_neg (by omega), if_neg (by omega), if_pos rfl]
  exact decide_eq_false (by omega)
theorem ok0 (h : known op = true) (hk : kind op = 0) (h0 : a = 0) : insOk (op, a, b) = (b == 0) := by
  rw [ok_k h, hk, okAB, if_neg (by omega), if_neg (by omega), if_neg (by omega), if_neg (by omega)]
  exact dec_beq _ _ (by omega)
theorem ok0f (h : known op = true) (hk : kind op = 0) (h0 : a ≠ 0) : insOk (op, a, b) = false := by
  rw [ok_k h, hk, okAB, if_neg (by omega), if_neg (by omega), if_neg (by omega), if_neg (by omega)]
  exact decide_eq_false (by omega)
end
end Go.Proofs.YtiinkfejdnfonaaGreatDoor.Ops
