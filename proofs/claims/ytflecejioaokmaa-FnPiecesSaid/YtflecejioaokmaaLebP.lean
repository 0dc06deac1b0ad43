/- Plain laws: a number that is read in pieces is written in no more pieces. No program in sight. -/
import Derived.Test.YtflecejioaokmaaLeb
namespace Go.Proofs.Ytflecejioaokmaa.Leb
open Go.RowKit Go.Proofs.Ytflecejioaokmaa.Num

theorem p7 (i : Nat) : (2 : Int) ^ (7 * (i + 1)) = 128 * 2 ^ (7 * i) := by
  rw [Nat.mul_add, Int.pow_add]
  have : (2 : Int) ^ (7 * 1) = 128 := by decide
  rw [this, Int.mul_comm]
/-- a number below 2^(7k) is written in at most k pieces -/
theorem putU_few (f : Nat) : ∀ (k : Nat) (x : Int), x < 2 ^ (7 * (k + 1)) → (putU f x).length ≤ k + 1 := by
  induction f with
  | zero => intro k x _; exact Nat.zero_le _
  | succ f ih =>
    intro k x h
    by_cases hs : x < 128
    · rw [putU_stop hs]; exact Nat.le_add_left 1 k
    · cases k with
      | zero =>
        have e : (2 : Int) ^ (7 * (0 + 1)) = 128 := by decide
        rw [e] at h
        exact absurd h hs
      | succ k =>
        rw [putU_more (by omega), List.length_cons]
        have h2 : x / 128 < 2 ^ (7 * (k + 1)) := by
          rw [p7 (k + 1)] at h
          generalize (2 : Int) ^ (7 * (k + 1)) = y at h
          omega
        have := ih k (x / 128) h2
        omega
theorem putS_few (f : Nat) : ∀ (k : Nat) (x : Int), -(64 * 2 ^ (7 * k)) ≤ x → x < 64 * 2 ^ (7 * k) → (putS f x).length ≤ k + 1 := by
  induction f with
  | zero => intro k x _ _; exact Nat.zero_le _
  | succ f ih =>
    intro k x h h'
    by_cases hs : -64 ≤ x ∧ x ≤ 63
    · rw [putS_stop hs.1 hs.2]; exact Nat.le_add_left 1 k
    · cases k with
      | zero =>
        have e : (2 : Int) ^ (7 * 0) = 1 := by decide
        rw [e] at h h'
        exfalso
        omega
      | succ k =>
        rw [putS_more (by omega), List.length_cons]
        rw [p7 k] at h h'
        have := ih k (x / 128) (by generalize (2 : Int) ^ (7 * k) = y at h h' ⊢; omega) (by generalize (2 : Int) ^ (7 * k) = y at h h' ⊢; omega)
        omega
/-- the sum of pieces lies between what its last byte tells -/
theorem get_mid : ∀ (f i : Nat) (s : Int) (l : List Int), 0 ≤ s → s < 2 ^ (7 * i) → (∀ x ∈ l, 0 ≤ x ∧ x ≤ 255) → ∀ r, get f i s l = some r → 0 ≤ r.2.1 ∧ r.2.1 < 128 ∧ ∃ k, r.2.2 = k + 1 ∧ k + 1 ≤ i + f ∧ r.2.1 * 2 ^ (7 * k) ≤ r.1 ∧ r.1 < (r.2.1 + 1) * 2 ^ (7 * k)
  | 0, _, _, _, _, _, _, r, h => by simp [get] at h
  | f + 1, i, s, [], _, _, _, r, h => by simp [get] at h
  | f + 1, i, s, x :: l, h0, h1, hx, r, h => by
    have hx0 := hx x (by simp)
    rw [get] at h
    split at h
    · rename_i hlt
      injection h with h
      subst h
      refine ⟨hx0.1, hlt, i, rfl, by show i + 1 ≤ i + (f + 1); omega, ?_, ?_⟩
      · show x * 2 ^ (7 * i) ≤ s + x % 128 * 2 ^ (7 * i)
        rw [Int.emod_eq_of_lt hx0.1 hlt]; omega
      · show s + x % 128 * 2 ^ (7 * i) < (x + 1) * 2 ^ (7 * i)
        rw [Int.emod_eq_of_lt hx0.1 hlt, Int.add_mul]; omega
    · have hp : (0 : Int) < 2 ^ (7 * i) := Int.pow_pos (by omega)
      have hm : x % 128 * 2 ^ (7 * i) ≤ 127 * 2 ^ (7 * i) := Int.mul_le_mul_of_nonneg_right (by omega) (by omega)
      have hz : 0 ≤ x % 128 * 2 ^ (7 * i) := Int.mul_nonneg (by omega) (by omega)
      obtain ⟨a, b, k, hk, hf, c, d⟩ := get_mid f (i + 1) (s + x % 128 * 2 ^ (7 * i)) l (by omega) (by rw [p7]; omega) (fun y hy => hx y (by simp [hy])) r h
      exact ⟨a, b, k, hk, by omega, c, d⟩
theorem pc_mid {bs : List Int} {a : Nat} (hx : ∀ x ∈ bs, 0 ≤ x ∧ x ≤ 255) {s l : Int} {k : Nat} (h : pc bs a = (s, l, k)) (hk : k ≠ 0) : ∃ j, k = j + 1 ∧ j ≤ 4 ∧ 0 ≤ l ∧ l < 128 ∧ l * 2 ^ (7 * j) ≤ s ∧ s < (l + 1) * 2 ^ (7 * j) := by
  unfold pc at h
  cases hg : get 5 0 0 (bs.drop a) with
  | none => rw [hg] at h; simp at h; omega
  | some r =>
    rw [hg] at h
    obtain ⟨b, c, j, hj, hj5, d, e⟩ := get_mid 5 0 0 (bs.drop a) (by omega) (by decide) (fun x hx' => hx x (List.mem_of_mem_drop hx')) r hg
    simp at h
    subst h
    exact ⟨j, hj, by omega, b, c, d, e⟩
theorem four {P : Nat → Prop} {j : Nat} (h : j ≤ 4) (h0 : P 0) (h1 : P 1) (h2 : P 2) (h3 : P 3) (h4 : P 4) : P j := by
  rcases (by omega : j = 0 ∨ j = 1 ∨ j = 2 ∨ j = 3 ∨ j = 4) with rfl | rfl | rfl | rfl | rfl <;> assumption
/-- a plain number that is read is written in no more bytes -/
theorem getU_few {bs : List Int} {at_ : Int} (hx : ∀ x ∈ bs, 0 ≤ x ∧ x ≤ 255) {p q : Int} (h : getU bs at_ = (p, q, true)) : p % 4294967296 = p ∧ ((putU 5 p).length : Int) ≤ q - at_ := by
  unfold getU at h
  split at h
  · simp at h
  · obtain ⟨s, l, k, hp⟩ : ∃ s l k, pc bs at_.toNat = (s, l, k) := ⟨_, _, _, rfl⟩
    rw [hp] at h
    split at h
    · simp at h
    · rename_i h2
      simp only [Prod.mk.injEq, and_true] at h
      simp only at h2
      obtain ⟨j, rfl, hj, l0, l1, b0, b1⟩ := pc_mid hx hp (by omega)
      obtain ⟨rfl, rfl⟩ := h
      have hP : (0 : Int) < 2 ^ (7 * j) := Int.pow_pos (by omega)
      have hs0 : 0 ≤ s := by
        have := Int.mul_nonneg l0 (Int.le_of_lt hP)
        omega
      have hlt : s < 2 ^ (7 * (j + 1)) := by
        rw [p7]
        have := Int.mul_le_mul_of_nonneg_right (show l + 1 ≤ 128 by omega) (Int.le_of_lt hP)
        omega
      have hb : s < 4294967296 := by
        by_cases h4 : j = 4
        · subst h4
          have h3 : l ≤ 15 := by omega
          have e : (2 : Int) ^ (7 * 4) = 268435456 := by decide
          rw [e] at b1
          omega
        · have h3 : (2 : Int) ^ (7 * (j + 1)) ≤ 268435456 := by
            rcases (by omega : j = 0 ∨ j = 1 ∨ j = 2 ∨ j = 3) with rfl | rfl | rfl | rfl <;> decide
          omega
      have := putU_few 5 j s hlt
      refine ⟨Int.emod_eq_of_lt hs0 hb, by push_cast; omega⟩
/-- a number with a sign that is read is written in no more bytes -/
theorem getS_few {bs : List Int} {at_ : Int} (hx : ∀ x ∈ bs, 0 ≤ x ∧ x ≤ 255) {p q : Int} (h : getS bs at_ = (p, q, true)) : (-2147483648 ≤ p ∧ p ≤ 2147483647) ∧ ((putS 5 p).length : Int) ≤ q - at_ := by
  unfold getS at h
  split at h
  · simp at h
  · obtain ⟨s, l, k, hp⟩ : ∃ s l k, pc bs at_.toNat = (s, l, k) := ⟨_, _, _, rfl⟩
    rw [hp] at h
    split at h
    · simp at h
    · rename_i h2
      simp only [Prod.mk.injEq, and_true] at h
      simp only at h2
      obtain ⟨j, rfl, hj, l0, l1, b0, b1⟩ := pc_mid hx hp (by omega)
      obtain ⟨h, rfl⟩ := h
      rw [p7] at h
      have hm : -(64 * 2 ^ (7 * j)) ≤ p ∧ p < 64 * 2 ^ (7 * j) ∧ (j = 4 → -2147483648 ≤ p ∧ p ≤ 2147483647) := by
        have e4 : j = 4 → (2 : Int) ^ (7 * j) = 268435456 := by rintro rfl; decide
        have hP : (0 : Int) < 2 ^ (7 * j) := Int.pow_pos (by omega)
        generalize (2 : Int) ^ (7 * j) = P at *
        split at h
        · have h3 := Int.mul_le_mul_of_nonneg_right (show l + 1 ≤ 128 by omega) (Int.le_of_lt hP)
          have h4 := Int.mul_le_mul_of_nonneg_right (show 64 ≤ l by omega) (Int.le_of_lt hP)
          refine ⟨by omega, by omega, fun hj4 => ?_⟩
          have h5 := e4 hj4
          subst h5
          omega
        · have h3 := Int.mul_le_mul_of_nonneg_right (show l + 1 ≤ 64 by omega) (Int.le_of_lt hP)
          have h4 := Int.mul_nonneg l0 (Int.le_of_lt hP)
          refine ⟨by omega, by omega, fun hj4 => ?_⟩
          have h5 := e4 hj4
          subst h5
          omega
      have := putS_few 5 j p hm.1 hm.2.1
      refine ⟨?_, by push_cast; omega⟩
      by_cases h4 : j = 4
      · exact hm.2.2 h4
      · have h3 : (64 : Int) * 2 ^ (7 * j) ≤ 134217728 := by
          rcases (by omega : j = 0 ∨ j = 1 ∨ j = 2 ∨ j = 3) with rfl | rfl | rfl | rfl <;> decide
        omega
end Go.Proofs.Ytflecejioaokmaa.Leb
