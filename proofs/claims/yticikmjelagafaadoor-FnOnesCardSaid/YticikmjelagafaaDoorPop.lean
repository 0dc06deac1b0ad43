/- Plain laws on how many ones a number of 32 bits has, and on the zeros at its ends: no program in sight. -/
import Derived.Test.YticikmjelagafaaDoorBit
import Derived.Lib.BitFns
import Derived.Lib.Tables
namespace Go.Proofs.YticikmjelagafaaDoor.Pop
open Go.RowKit Go.Proofs.YticikmjelagafaaDoor.Num Go.Proofs.YticikmjelagafaaDoor.Bit

theorem and1 (n : Int) (j : Nat) : bits .and .i64 (n % 4294967296 / 2 ^ j) 1 = ((pl n / 2 ^ j % 2 : Nat) : Int) := by
  have h : n % 4294967296 / 2 ^ j = ((pl n / 2 ^ j : Nat) : Int) := by rw [← pl_cast n]; simp
  have h2 : pl n / 2 ^ j < 2 ^ 63 := Nat.lt_of_le_of_lt (Nat.div_le_self _ _) (by have := pl_lt n; omega)
  rw [h]
  have := i64_and (pl n / 2 ^ j) 1 h2 (by omega)
  rw [nat_mask1] at this
  exact this

theorem popAux_add : ∀ (i j x : Nat), Lib.popAux (i + j) x = Lib.popAux i x + Lib.popAux j (x / 2 ^ i)
  | 0, j, x => by simp [Lib.popAux]
  | i + 1, j, x => by
    rw [show i + 1 + j = (i + j) + 1 from by omega, Lib.popAux, Lib.popAux, popAux_add i j (x / 2), Nat.div_div_eq_div_mul, Nat.pow_succ, Nat.mul_comm 2]
    omega
theorem popAux_one (x : Nat) : Lib.popAux 1 x = x % 2 := by simp [Lib.popAux]
theorem popAux_succ (i x : Nat) : Lib.popAux (i + 1) x = Lib.popAux i x + x / 2 ^ i % 2 := by rw [popAux_add i 1 x, popAux_one]
theorem popAux_le : ∀ (i x : Nat), Lib.popAux i x ≤ i
  | 0, _ => by simp [Lib.popAux]
  | i + 1, x => by
    have := popAux_le i (x / 2)
    rw [Lib.popAux]
    omega
theorem popAux_mod : ∀ (i x : Nat), Lib.popAux i (x % 2 ^ i) = Lib.popAux i x
  | 0, _ => by simp [Lib.popAux]
  | i + 1, x => by
    rw [Lib.popAux, Lib.popAux]
    have h1 : x % 2 ^ (i + 1) % 2 = x % 2 := Nat.mod_mod_of_dvd x ⟨2 ^ i, by rw [Nat.pow_succ, Nat.mul_comm]⟩
    have h2 : x % 2 ^ (i + 1) / 2 = x / 2 % 2 ^ i := by rw [Nat.pow_succ, Nat.mul_comm, Nat.mod_mul_right_div_self]
    rw [h1, h2, popAux_mod i (x / 2)]
theorem popAux_zero : ∀ i : Nat, Lib.popAux i 0 = 0
  | 0 => rfl
  | i + 1 => by simp [Lib.popAux, popAux_zero i]
theorem ones8 (b : Nat) (h : b < 256) : Lib.onesCount b = Lib.popAux 8 b := by
  show Lib.popAux (8 + 56) b = _
  rw [popAux_add 8 56 b, Nat.div_eq_of_lt (by omega), popAux_zero]
  rfl
theorem pop32 (x : Nat) : Lib.popAux 32 x = Lib.popAux 8 (x / 16777216 % 256) + Lib.popAux 8 (x / 65536 % 256) + Lib.popAux 8 (x / 256 % 256) + Lib.popAux 8 (x % 256) := by
  have m := popAux_mod 8
  have e : (2 : Nat) ^ 8 = 256 := by decide
  rw [e] at m
  rw [m, m, m, m, show (32 : Nat) = 8 + (8 + (8 + 8)) from rfl, popAux_add, popAux_add, popAux_add, e, Nat.div_div_eq_div_mul, Nat.div_div_eq_div_mul, show 256 * 256 = 65536 from rfl, show 65536 * 256 = 16777216 from rfl]
  omega
theorem pop8_of (i : Int) (h0 : 0 ≤ i) (h1 : i ≤ 255) : Lib.pop8 i = (Lib.onesCount i.toNat : Int) ∧ 0 ≤ Lib.pop8 i ∧ Lib.pop8 i ≤ 8 := by
  have e := Lib.pop8_eq ⟨i.toNat, by omega⟩
  have l := Lib.onesCount_le8 ⟨i.toNat, by omega⟩
  simp only [Int.toNat_of_nonneg h0] at e
  refine ⟨e, ?_⟩
  simp only at l
  omega
theorem and255 (x : Int) (h0 : 0 ≤ x) (h1 : x ≤ 4294967295) : bits .and .u32 x 255 = x % 256 := by
  rw [u32_and x 255 h0 (by omega) (by omega) (by omega)]
  have : x.toNat &&& (255 : Int).toNat = x.toNat % 256 := Nat.and_two_pow_sub_one_eq_mod x.toNat 8
  rw [this]
  omega
/-- the four bytes' ones are the number's -/
theorem pop_sum (x : Nat) (hx : x < 4294967296) : Lib.pop8 ((x : Int) / 16777216) + Lib.pop8 ((x : Int) / 65536 % 256) + Lib.pop8 ((x : Int) / 256 % 256) + Lib.pop8 ((x : Int) % 256) = (Lib.popAux 32 x : Int) := by
  rw [(pop8_of _ (by omega) (by omega)).1, (pop8_of ((x : Int) / 65536 % 256) (by omega) (by omega)).1, (pop8_of ((x : Int) / 256 % 256) (by omega) (by omega)).1, (pop8_of ((x : Int) % 256) (by omega) (by omega)).1]
  rw [show ((x : Int) / 16777216).toNat = x / 16777216 % 256 from by omega, show ((x : Int) / 65536 % 256).toNat = x / 65536 % 256 from by omega, show ((x : Int) / 256 % 256).toNat = x / 256 % 256 from by omega, show ((x : Int) % 256).toNat = x % 256 from by omega]
  rw [ones8 _ (by omega), ones8 _ (by omega), ones8 _ (by omega), ones8 _ (by omega), pop32]
  omega

/-- the highest one -/
theorem bitLen_at (x k : Nat) (h : x < 2 ^ (k + 1)) (hb : x / 2 ^ k % 2 = 1) (hk : k < 32) : Lib.bitLen x = k + 1 := by
  have hp : 0 < 2 ^ k := Nat.pow_pos (by omega)
  have h1 : x / 2 ^ k < 2 := by rw [Nat.div_lt_iff_lt_mul hp, Nat.mul_comm, ← Nat.pow_succ]; exact h
  have h2 : x / 2 ^ k = 1 := by generalize x / 2 ^ k = q at h1 hb; omega
  have h3 : 2 ^ k ≤ x := by
    rcases Nat.lt_or_ge x (2 ^ k) with h4 | h4
    · rw [Nat.div_eq_of_lt h4] at h2; omega
    · exact h4
  have h5 : x < 2 ^ 64 := Nat.lt_of_lt_of_le h (Nat.pow_le_pow_right (by omega) (by omega))
  rw [Lib.bitLen_shift k x h3 h5, h2]
  rfl
theorem lower (x k : Nat) (h : x < 2 ^ (k + 1)) (hb : x / 2 ^ k % 2 ≠ 1) : x < 2 ^ k := by
  have hp : 0 < 2 ^ k := Nat.pow_pos (by omega)
  have h1 : x / 2 ^ k < 2 := by rw [Nat.div_lt_iff_lt_mul hp, Nat.mul_comm, ← Nat.pow_succ]; exact h
  have h2 : x / 2 ^ k = 0 := by generalize x / 2 ^ k = q at h1 hb; omega
  rcases Nat.lt_or_ge x (2 ^ k) with h4 | h4
  · exact h4
  · have := Nat.div_pos h4 hp; omega

end Go.Proofs.YticikmjelagafaaDoor.Pop
