/- Cutting at a byte, and joining again. No program in sight. -/
import Derived.Test.YtiinkfejdnfonaaDoorBtC
import Derived.Lib.SplitLaws
import Derived.Lib.IndexBytes
namespace Go.Proofs.YtiinkfejdnfonaaDoor.Cut
open Go.RowKit

/-- the pieces of a row of bytes between the bytes c -/
def cutB (c : UInt8) : List UInt8 → List (List UInt8)
  | [] => [[]]
  | b :: l => if b = c then [] :: cutB c l else (b :: (cutB c l).headD []) :: (cutB c l).tail
theorem cutB_ne (c : UInt8) : ∀ l, cutB c l ≠ []
  | [] => by simp [cutB]
  | b :: l => by unfold cutB; split <;> simp
theorem cutB_step (c : UInt8) (r : List UInt8) : ∀ p : List UInt8, c ∉ p → cutB c (p ++ c :: r) = p :: cutB c r
  | [], _ => by simp [cutB]
  | b :: p, h => by
    have hb : b ≠ c := fun e => h (by simp [e])
    have hp : c ∉ p := fun e => h (List.mem_cons_of_mem _ e)
    rw [List.cons_append, cutB, if_neg hb, cutB_step c r p hp]
    rfl
theorem cutB_last (c : UInt8) : ∀ p : List UInt8, c ∉ p → cutB c p = [p]
  | [], _ => rfl
  | b :: p, h => by
    have hb : b ≠ c := fun e => h (by simp [e])
    have hp : c ∉ p := fun e => h (List.mem_cons_of_mem _ e)
    rw [cutB, if_neg hb, cutB_last c p hp]
    rfl
theorem cutB_no (c : UInt8) : ∀ l, ∀ p ∈ cutB c l, c ∉ p
  | [], p, h => by
    simp [cutB] at h
    subst h
    simp
  | b :: l, p, h => by
    have ih := cutB_no c l
    by_cases hb : b = c
    · rw [cutB, if_pos hb] at h
      rcases List.mem_cons.1 h with rfl | h
      · simp
      · exact ih p h
    · rw [cutB, if_neg hb] at h
      obtain ⟨x, xs, hx⟩ := List.exists_cons_of_ne_nil (cutB_ne c l)
      rw [hx] at h ih
      rcases List.mem_cons.1 h with rfl | h
      · intro hm
        rcases List.mem_cons.1 hm with e | hm
        · exact hb e.symm
        · exact ih x (by simp) hm
      · exact ih p (List.mem_cons_of_mem _ h)
theorem cutB_len (c : UInt8) : ∀ l, (cutB c l).length ≤ l.length + 1
  | [] => by simp [cutB]
  | b :: l => by
    have ih := cutB_len c l
    unfold cutB
    split
    · simp only [List.length_cons]; omega
    · simp only [List.length_cons, List.length_tail]; omega
/-- joined again, the pieces are what was cut -/
theorem join_cut (c : UInt8) : ∀ l, Lib.join (cutB c l) [c] = l
  | [] => by simp [cutB, Lib.join_one]
  | b :: l => by
    have ih := join_cut c l
    obtain ⟨x, xs, hx⟩ := List.exists_cons_of_ne_nil (cutB_ne c l)
    rw [hx, Lib.join_cons] at ih
    unfold cutB
    split
    · rename_i h
      rw [hx, Lib.join_cons, h]
      simp only [Lib.joinTail, List.map_cons, List.flatten_cons, List.nil_append, List.cons_append] at ih ⊢
      rw [ih]
    · rw [hx, Lib.join_cons]
      simp only [List.headD_cons, List.tail_cons, List.cons_append]
      rw [ih]
/-- cut again, what was joined is the pieces -/
theorem cut_join (c : UInt8) : ∀ (x : List UInt8) (xs : List (List UInt8)), (∀ p ∈ x :: xs, c ∉ p) → cutB c (Lib.join (x :: xs) [c]) = x :: xs
  | x, [], h => by
    rw [Lib.join_one]
    exact cutB_last c x (h x (by simp))
  | x, y :: ys, h => by
    have ih := cut_join c y ys (fun p hp => h p (List.mem_cons_of_mem _ hp))
    have e : Lib.join (x :: y :: ys) [c] = x ++ c :: Lib.join (y :: ys) [c] := by
      rw [Lib.join_cons, Lib.join_cons]
      simp [Lib.joinTail]
    rw [e, cutB_step c _ x (h x (by simp)), ih]
/-- the library's cut at a text of one byte -/
theorem split_cut (c : UInt8) : ∀ l, Lib.splitK [c] 0 (Lib.count l [c]) l = cutB c l
  | [] => by
    rw [Lib.count_miss (by simp [Lib.index])]
    rfl
  | b :: l => by
    have ih := split_cut c l
    by_cases hb : b = c
    · subst hb
      have hix : Lib.index (b :: l) [b] = ((0 : Nat) : Int) := by rw [Lib.index]; simp [List.isPrefixOf]
      rw [Lib.count_cons_eq, Nat.add_comm, Lib.splitK, hix, cutB, if_pos rfl, ← ih]
      simp
    · have hp : ([c] : List UInt8).isPrefixOf (b :: l) = false := by simp [List.isPrefixOf, Ne.symm hb]
      have hix : Lib.index (b :: l) [c] = if Lib.index l [c] == -1 then -1 else Lib.index l [c] + 1 := by rw [Lib.index, hp]; simp
      rw [Lib.count_cons_ne b c l hb, cutB, if_neg hb, ← ih]
      by_cases hm : Lib.index l [c] = -1
      · rw [Lib.count_miss hm]
        rfl
      · have hge := Lib.index_ge l [c]
        obtain ⟨j, hj⟩ : ∃ j : Nat, Lib.index l [c] = j := ⟨(Lib.index l [c]).toNat, by omega⟩
        rw [Lib.count_hit (by simp) hj, Nat.add_comm, Lib.splitK, Lib.splitK, hix, hj]
        have h1 : (((j : Int) == -1) = false) := by simp <;> omega
        have h2 : ((((j : Int) + 1) == -1) = false) := by simp <;> omega
        simp only [h1, h2, Bool.false_eq_true, if_false, Int.toNat_natCast, Nat.add_zero]
        have h3 : ((j : Int) + 1).toNat = j + 1 := by omega
        rw [h3]
        simp
end Go.Proofs.YtiinkfejdnfonaaDoor.Cut
