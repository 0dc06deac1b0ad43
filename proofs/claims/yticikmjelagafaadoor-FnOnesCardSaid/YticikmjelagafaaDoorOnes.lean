/- Plain laws on the ones of a number of 32 bits and the zeros at its ends: no program in sight. -/
import Derived.Test.YticikmjelagafaaDoorPop
import Derived.Lib.TrailingZeros
namespace Go.Proofs.YticikmjelagafaaDoor.Ones
open Go.RowKit Go.Proofs.YticikmjelagafaaDoor.Num Go.Proofs.YticikmjelagafaaDoor.Bit Go.Proofs.YticikmjelagafaaDoor.Pop

theorem popAux_not : ∀ (i x : Nat), Lib.popAux i (x ^^^ (2 ^ i - 1)) + Lib.popAux i x = i
  | 0, _ => by simp [Lib.popAux]
  | i + 1, x => by
    have hp : 1 ≤ 2 ^ i := Nat.one_le_two_pow
    have hd : (2 ^ (i + 1) - 1) / 2 = 2 ^ i - 1 := by rw [Nat.pow_succ]; omega
    have hm : (2 ^ (i + 1) - 1) % 2 = 1 := by rw [Nat.pow_succ]; omega
    have h1 : (x ^^^ (2 ^ (i + 1) - 1)) / 2 = (x / 2) ^^^ (2 ^ i - 1) := by rw [Nat.xor_div_two, hd]
    have h2 : (x ^^^ (2 ^ (i + 1) - 1)) % 2 = 1 ↔ ¬ (x % 2 = 1) := by rw [Nat.xor_mod_two_eq_one, hm]; simp
    have h3 := popAux_not i (x / 2)
    rw [Lib.popAux, Lib.popAux, h1]
    generalize x ^^^ (2 ^ (i + 1) - 1) = y at h2
    generalize Lib.popAux i (x / 2 ^^^ (2 ^ i - 1)) = u at *
    generalize Lib.popAux i (x / 2) = v at *
    omega
theorem pop_le_len : ∀ (i x : Nat), x < 2 ^ 64 → Lib.popAux i x ≤ Lib.bitLen x
  | 0, _, _ => by simp [Lib.popAux]
  | i + 1, x, h => by
    by_cases h0 : x = 0
    · subst h0; rw [popAux_zero]; omega
    · have := pop_le_len i (x / 2) (by omega)
      rw [Lib.popAux, Lib.bitLen_half x h0 h]
      omega
theorem top_one : ∀ (k x : Nat), x ≠ 0 → x < 2 ^ k → k ≤ 64 → x / 2 ^ (Lib.bitLen x - 1) = 1 ∧ 1 ≤ Lib.bitLen x
  | 0, x, h0, h, _ => by simp at h; omega
  | k + 1, x, h0, h, hk => by
    have hx : x < 2 ^ 64 := Nat.lt_of_lt_of_le h (Nat.pow_le_pow_right (by omega) hk)
    rw [Lib.bitLen_half x h0 hx]
    by_cases h1 : x = 1
    · subst h1; exact ⟨by decide, by omega⟩
    · obtain ⟨e, hl⟩ := top_one k (x / 2) (by omega) (by rw [Nat.pow_succ] at h; omega) (by omega)
      refine ⟨?_, by omega⟩
      rw [Nat.div_div_eq_div_mul, Nat.mul_comm 2, ← Nat.pow_succ] at e
      rw [show 1 + Lib.bitLen (x / 2) - 1 = Lib.bitLen (x / 2) - 1 + 1 from by omega]
      exact e
theorem ends_le : ∀ (f i x : Nat), x ≠ 0 → x < 2 ^ f → f ≤ 64 → Lib.ctzFrom f x + Lib.popAux i x ≤ Lib.bitLen x
  | 0, _, x, h0, h, _ => by simp at h; omega
  | f + 1, i, x, h0, h, hf => by
    have hx : x < 2 ^ 64 := Nat.lt_of_lt_of_le h (Nat.pow_le_pow_right (by omega) hf)
    rw [Lib.ctzFrom]
    split
    · have := pop_le_len i x hx
      omega
    · have h1 : x / 2 < 2 ^ f := by rw [Nat.pow_succ] at h; omega
      rw [Lib.bitLen_half x h0 hx]
      cases i with
      | zero =>
        have := ends_le f 0 (x / 2) (by omega) h1 (by omega)
        simp only [Lib.popAux] at *
        omega
      | succ i =>
        have := ends_le f i (x / 2) (by omega) h1 (by omega)
        rw [Lib.popAux]
        omega
theorem pl_w32 (z : Int) (h0 : 0 ≤ z) (h : z < 4294967296) : pl (wrap32 z) = z.toNat := by
  have e : wrap32 z % 4294967296 = z := by unfold wrap32; omega
  unfold pl
  rw [e]
theorem w32_one : wrap32 ((1 : Nat) : Int) = 1 := by
  rw [show ((1 : Nat) : Int) = 1 from rfl]
  unfold wrap32
  omega
theorem pl_nat (m : Nat) (h : m < 2 ^ 32) : pl (wrap32 (m : Int)) = m := by
  rw [pl_w32 (m : Int) (Int.natCast_nonneg m) (by omega)]
  simp
section
variable (n : Int)
theorem ones_not : (Lib.popAux 32 (pl n) : Int) + (Lib.popAux 32 (pl (bitsV 3 n (-1))) : Int) = 32 := by
  have hm : pl (-1) = 2 ^ 32 - 1 := by decide
  rw [← V3, pl_nat _ (Nat.xor_lt_two_pow (pl_lt n) (pl_lt _)), hm]
  have := popAux_not 32 (pl n)
  omega
theorem ones_nil (h : pl n = 0) : (Lib.popAux 32 (pl n) : Int) = 0 ∧ (Lib.bitLen (pl n) : Int) = 0 ∧ (Lib.ctz 32 (pl n) : Int) = 32 := by
  rw [h]
  decide
theorem ones_ends (h : pl n ≠ 0) : (32 - (Lib.bitLen (pl n) : Int)) + (Lib.ctz 32 (pl n) : Int) + (Lib.popAux 32 (pl n) : Int) ≤ 32 ∧ (1 : Int) ≤ Lib.bitLen (pl n) ∧ (Lib.bitLen (pl n) : Int) ≤ 32 ∧ (0 : Int) ≤ Lib.ctz 32 (pl n) ∧ (Lib.ctz 32 (pl n) : Int) ≤ 31 ∧ (0 : Int) ≤ Lib.popAux 32 (pl n) := by
  have e : Lib.ctz 32 (pl n) = Lib.ctzFrom 32 (pl n) := by simp [Lib.ctz, h]
  have h1 := ends_le 32 32 (pl n) h (pl_lt n) (by omega)
  have h2 := (top_one 32 (pl n) h (pl_lt n) (by omega)).2
  have h3 := Lib.bitLen_le (pl n) 32 (by omega) (pl_lt n)
  have h4 := (Lib.ctzFrom_spec 32 (pl n) (by omega) (pl_lt n))
  obtain ⟨m, _, h5⟩ := h4
  rw [e]
  omega
theorem ones_top (h : pl n ≠ 0) : bitsV 6 n (31 - (32 - (Lib.bitLen (pl n) : Int))) = 1 := by
  obtain ⟨h1, h2⟩ := top_one 32 (pl n) h (pl_lt n) (by omega)
  have h3 := Lib.bitLen_le (pl n) 32 (by omega) (pl_lt n)
  have e : pl (31 - (32 - (Lib.bitLen (pl n) : Int))) % 32 = Lib.bitLen (pl n) - 1 := by
    generalize Lib.bitLen (pl n) = L at *
    unfold pl
    omega
  rw [← V6, e, h1]
  exact w32_one
theorem ones_low (h : pl n ≠ 0) : bitsV 1 (bitsV 6 n (Lib.ctz 32 (pl n) : Int)) 1 = 1 := by
  have e0 : Lib.ctz 32 (pl n) = Lib.ctzFrom 32 (pl n) := by simp [Lib.ctz, h]
  obtain ⟨m, hm, hc⟩ := Lib.ctzFrom_spec 32 (pl n) (by omega) (pl_lt n)
  rw [← e0] at hm hc
  have e : pl (Lib.ctz 32 (pl n) : Int) % 32 = Lib.ctz 32 (pl n) := by
    generalize Lib.ctz 32 (pl n) = L at *
    unfold pl
    omega
  have hd : pl n / 2 ^ Lib.ctz 32 (pl n) = 2 * m + 1 := by
    have hp : 0 < 2 ^ Lib.ctz 32 (pl n) := Nat.pow_pos (by omega)
    generalize Lib.ctz 32 (pl n) = L at *
    rw [hm, Nat.mul_div_cancel_left _ hp]
  have hlt : pl n / 2 ^ Lib.ctz 32 (pl n) < 2 ^ 32 := Nat.lt_of_le_of_lt (Nat.div_le_self _ _) (pl_lt n)
  rw [← V6, e, ← V1, pl_nat _ hlt, show pl 1 = 1 from by decide, Nat.and_one_is_mod, hd, show (2 * m + 1) % 2 = 1 from by omega]
  exact w32_one
end
end Go.Proofs.YticikmjelagafaaDoor.Ones
