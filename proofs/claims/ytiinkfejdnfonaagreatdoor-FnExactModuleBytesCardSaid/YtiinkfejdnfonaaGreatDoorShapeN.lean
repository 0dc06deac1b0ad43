/- Plain laws on bodies: where a begin has its end and its else; a right shape. No program in sight. -/
import Derived.WalkKit
namespace Go.Proofs.YtiinkfejdnfonaaGreatDoor.Shape
open Go.RowKit

abbrev Ins3 := Int × Int × Int
def isBeg (op : Int) : Bool := op == 2 || op == 3 || op == 4
/-- where the begin that is open ends: so many are open, here we are -/
def endF : List Ins3 → Int → Int → Int
  | [], _, _ => -1
  | x :: r, d, i => if isBeg x.1 = true then endF r (d + 1) (i + 1) else if x.1 = 11 then (if d = 1 then i else endF r (d - 1) (i + 1)) else endF r d (i + 1)
def elseF : List Ins3 → Int → Int → Int
  | [], _, _ => -1
  | x :: r, d, i => if isBeg x.1 = true then elseF r (d + 1) (i + 1) else if x.1 = 11 then elseF r (d - 1) (i + 1) else if x.1 = 5 ∧ d = 1 then i else elseF r d (i + 1)
def begAt (l : List Ins3) (at_ : Int) : Bool := 0 ≤ at_ && at_ < l.length && isBeg (l.getD at_.toNat (0, 0, 0)).1
def endOf (l : List Ins3) (at_ : Int) : Int := if begAt l at_ = true then endF (l.drop at_.toNat) 0 at_ else -1
def elseOf (l : List Ins3) (at_ : Int) : Int :=
  if 0 ≤ endOf l at_ ∧ (l.getD at_.toNat (0, 0, 0)).1 = 4 then elseF ((l.drop at_.toNat).take ((endOf l at_).toNat - at_.toNat)) 0 at_ else -1
def shapeF : List Ins3 → List Bool → Bool
  | [], st => st.isEmpty
  | x :: r, st =>
    if isBeg x.1 = true then shapeF r (decide (x.1 = 4) :: st)
    else if x.1 = 5 then (match st with | true :: t => shapeF r (false :: t) | _ => false)
    else if x.1 = 11 then (match st with | _ :: t => shapeF r t | [] => false)
    else shapeF r st
def shapeOk (l : List Ins3) : Bool := shapeF l []

theorem endF_bd : ∀ (r : List Ins3) (d i : Int), endF r d i = -1 ∨ (i ≤ endF r d i ∧ endF r d i < i + r.length)
  | [], _, _ => .inl rfl
  | x :: r, d, i => by
    have h1 := endF_bd r (d + 1) (i + 1)
    have h2 := endF_bd r (d - 1) (i + 1)
    have h3 := endF_bd r d (i + 1)
    simp only [endF, List.length_cons]
    split
    · omega
    · split
      · split <;> omega
      · omega
theorem elseF_bd : ∀ (r : List Ins3) (d i : Int), elseF r d i = -1 ∨ (i ≤ elseF r d i ∧ elseF r d i < i + r.length)
  | [], _, _ => .inl rfl
  | x :: r, d, i => by
    have h1 := elseF_bd r (d + 1) (i + 1)
    have h2 := elseF_bd r (d - 1) (i + 1)
    have h3 := elseF_bd r d (i + 1)
    simp only [elseF, List.length_cons]
    split
    · omega
    · split
      · omega
      · split <;> omega
theorem endOf_bd (l : List Ins3) (a : Int) : endOf l a = -1 ∨ (0 ≤ a ∧ a < endOf l a ∧ endOf l a < l.length) := by
  unfold endOf
  split
  · rename_i h
    simp only [begAt, Bool.and_eq_true, decide_eq_true_eq] at h
    obtain ⟨⟨h0, h1⟩, h2⟩ := h
    have hl : a.toNat < l.length := by omega
    rw [List.drop_eq_getElem_cons hl]
    rw [List.getD_eq_getElem?_getD, List.getElem?_eq_getElem hl] at h2
    simp only [Option.getD_some] at h2
    simp only [endF, h2, if_true]
    have := endF_bd (l.drop (a.toNat + 1)) (0 + 1) (a + 1)
    simp only [List.length_drop] at this
    omega
  · exact .inl rfl
theorem elseOf_bd (l : List Ins3) (a : Int) : elseOf l a = -1 ∨ ((l.getD a.toNat (0, 0, 0)).1 = 4 ∧ a < elseOf l a ∧ elseOf l a < endOf l a) := by
  unfold elseOf
  split
  · rename_i h
    obtain ⟨h0, h4⟩ := h
    have he := endOf_bd l a
    generalize endOf l a = e at he h0 ⊢
    have hl : a.toNat < l.length := by omega
    rw [List.drop_eq_getElem_cons hl]
    have h4' := h4
    rw [List.getD_eq_getElem?_getD, List.getElem?_eq_getElem hl] at h4'
    simp only [Option.getD_some] at h4'
    obtain ⟨m, hm⟩ : ∃ m, e.toNat - a.toNat = m + 1 := ⟨e.toNat - a.toNat - 1, by omega⟩
    rw [hm, List.take_succ_cons]
    have hb : isBeg (l[a.toNat]).1 = true := by rw [h4']; rfl
    simp only [elseF, hb, if_true]
    have := elseF_bd ((l.drop (a.toNat + 1)).take m) (0 + 1) (a + 1)
    simp only [List.length_take, List.length_drop] at this
    rcases this with h | h
    · exact .inl h
    · exact .inr ⟨h4, by omega, by omega⟩
  · exact .inl rfl

/-- in a right shape what is open is ended -/
theorem shape_end : ∀ (r : List Ins3) (st0 st : List Bool) (a : Bool) (i : Int), 0 ≤ i → shapeF r (st0 ++ a :: st) = true → 0 ≤ endF r (st0.length + 1) i
  | [], st0, st, a, i, _, h => by cases st0 <;> simp [shapeF] at h
  | x :: r, st0, st, a, i, hi, h => by
    simp only [shapeF] at h
    simp only [endF]
    split at h
    · rename_i hb
      rw [if_pos hb]
      exact shape_end r (decide (x.1 = 4) :: st0) st a (i + 1) (by omega) h
    · rename_i hb
      rw [if_neg hb]
      split at h
      · rename_i h5
        rw [if_neg (by omega)]
        cases st0 with
        | nil =>
          simp only [List.nil_append] at h
          cases a
          · simp at h
          · exact shape_end r [] st false (i + 1) (by omega) h
        | cons b t =>
          simp only [List.cons_append] at h
          cases b
          · simp at h
          · exact shape_end r (false :: t) st a (i + 1) (by omega) h
      · split at h
        · rename_i h11
          rw [if_pos h11]
          cases st0 with
          | nil => simpa using hi
          | cons b t =>
            simp only [List.cons_append] at h
            rw [if_neg (by simp only [List.length_cons]; omega)]
            have := shape_end r t st a (i + 1) (by omega) h
            simpa using this
        · rename_i h11
          rw [if_neg h11]
          exact shape_end r st0 st a (i + 1) (by omega) h

/-- begins less ends -/
def bal : List Ins3 → Int
  | [] => 0
  | x :: r => (if isBeg x.1 = true then 1 else 0) - (if x.1 = 11 then 1 else 0) + bal r
theorem beg11 {x : Int} (h : isBeg x = true) : x ≠ 11 ∧ x ≠ 5 := by
  simp only [isBeg, Bool.or_eq_true, beq_iff_eq] at h
  omega
theorem shape_bal : ∀ (r : List Ins3) (st : List Bool), shapeF r st = true → bal r + st.length = 0
  | [], st, h => by
    simp only [shapeF, List.isEmpty_iff] at h
    subst h
    rfl
  | x :: r, st, h => by
    simp only [shapeF] at h
    simp only [bal]
    split at h
    · rename_i hb
      have := shape_bal r _ h
      have := beg11 hb
      rw [if_pos hb, if_neg this.1]
      simp only [List.length_cons] at *
      omega
    · rename_i hb
      rw [if_neg hb]
      split at h
      · rename_i h5
        rw [if_neg (by omega)]
        cases st with
        | nil => simp at h
        | cons b t =>
          cases b
          · simp at h
          · have := shape_bal r _ h
            simp only [List.length_cons] at *
            omega
      · split at h
        · rename_i h11
          rw [if_pos h11]
          cases st with
          | nil => simp at h
          | cons b t =>
            have := shape_bal r _ h
            simp only [List.length_cons] at *
            omega
        · rename_i h11
          rw [if_neg h11]
          have := shape_bal r _ h
          omega
/-- a right shape from a place on is right with some stack -/
theorem shape_drop : ∀ (r : List Ins3) (st : List Bool) (k : Nat), shapeF r st = true → ∃ st', shapeF (r.drop k) st' = true
  | r, st, 0, h => ⟨st, h⟩
  | [], st, k + 1, h => ⟨st, h⟩
  | x :: r, st, k + 1, h => by
    simp only [shapeF] at h
    rw [List.drop_succ_cons]
    split at h
    · exact shape_drop r _ k h
    · split at h
      · match st, h with
        | true :: t, h => exact shape_drop r _ k h
      · split at h
        · match st, h with
          | _ :: t, h => exact shape_drop r _ k h
        · exact shape_drop r _ k h
/-- in a right shape each begin, and nothing else, has an end behind it -/
theorem shape_each {l : List Ins3} (h : shapeOk l = true) (k : Nat) (hk : k < l.length) : (isBeg (l[k]).1 = true ↔ (k : Int) < endOf l k) := by
  have hbd := endOf_bd l k
  constructor
  · intro hb
    have hat : begAt l k = true := by
      simp only [begAt, Bool.and_eq_true, decide_eq_true_eq, Int.toNat_natCast]
      refine ⟨⟨by omega, by omega⟩, ?_⟩
      rw [List.getD_eq_getElem?_getD, List.getElem?_eq_getElem hk]
      exact hb
    obtain ⟨st, hs⟩ := shape_drop l [] k h
    have h1 : 0 ≤ endOf l k := by
      unfold endOf
      rw [if_pos hat, Int.toNat_natCast]
      rw [List.drop_eq_getElem_cons hk] at hs ⊢
      simp only [shapeF, hb, if_true] at hs
      simp only [endF, hb, if_true]
      exact shape_end (l.drop (k + 1)) [] st _ (k + 1) (by omega) hs
    omega
  · intro hlt
    unfold endOf at hlt
    split at hlt
    · rename_i hat
      simp only [begAt, Bool.and_eq_true, decide_eq_true_eq, Int.toNat_natCast] at hat
      have := hat.2
      rw [List.getD_eq_getElem?_getD, List.getElem?_eq_getElem hk] at this
      exact this
    · omega
end Go.Proofs.YtiinkfejdnfonaaGreatDoor.Shape
