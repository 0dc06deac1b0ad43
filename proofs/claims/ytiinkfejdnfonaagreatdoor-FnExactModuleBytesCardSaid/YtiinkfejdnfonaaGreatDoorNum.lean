/- Plain laws on numbers of 32 bits and their bits: no program in sight. -/
import Derived.WalkKit
namespace Go.Proofs.YtiinkfejdnfonaaGreatDoor.Num
open Go.RowKit

theorem hide {p : Prop} (h : p) : Hid p := h
theorem w32_bd (n : Int) : -2147483648 ≤ wrap32 n ∧ wrap32 n ≤ 2147483647 := by unfold wrap32; omega
theorem w32_self {n : Int} (h0 : -2147483648 ≤ n) (h1 : n ≤ 2147483647) : wrap32 n = n := by unfold wrap32; omega
theorem w32_w32 (n : Int) : wrap32 (wrap32 n) = wrap32 n := by unfold wrap32; omega
theorem w32_mod (n : Int) : wrap32 (n % 4294967296) = wrap32 n := by unfold wrap32; omega
theorem mod_w32 (n : Int) : wrap32 n % 4294967296 = n % 4294967296 := by unfold wrap32; omega
theorem w32_eq {a b : Int} (h : a % 4294967296 = b % 4294967296) : wrap32 a = wrap32 b := by unfold wrap32; omega
theorem mod_bd (n : Int) : 0 ≤ n % 4294967296 ∧ n % 4294967296 ≤ 4294967295 := by omega

/-- the spec's way to wrap: plain, and 2^32 less above the greatest -/
theorem w32_hi {n : Int} (h : 2147483647 < n % 4294967296) : n % 4294967296 - 4294967296 = wrap32 n := by unfold wrap32; omega
theorem w32_lo {n : Int} (h : n % 4294967296 ≤ 2147483647) : n % 4294967296 = wrap32 n := by unfold wrap32; omega

theorem and_mask (n : Int) : bits .and .i64 n 4294967295 = n % 4294967296 := by
  show IntKind.i64.wrap ((BitVec.ofInt 64 n &&& BitVec.ofInt 64 4294967295).toNat : Int) = _
  have h2 : (BitVec.ofInt 64 4294967295).toNat = 2 ^ 32 - 1 := by decide
  rw [BitVec.toNat_and, h2, Nat.and_two_pow_sub_one_eq_mod, BitVec.toNat_ofInt, IntKind.wrap_i64]
  omega

theorem mul_cong {a b c d : Int} (h : a % 4294967296 = c % 4294967296) (k : b % 4294967296 = d % 4294967296) : (a * b) % 4294967296 = (c * d) % 4294967296 := by
  rw [Int.mul_emod, h, k, ← Int.mul_emod]
theorem w32_mul (a b : Int) : wrap32 (wrap32 a * wrap32 b) = wrap32 (a * b) := w32_eq (mul_cong (mod_w32 a) (mod_w32 b))
theorem w32_add (a b : Int) : wrap32 (wrap32 a + wrap32 b) = wrap32 (a + b) := by unfold wrap32; omega
theorem w32_sub (a b : Int) : wrap32 (wrap32 a - wrap32 b) = wrap32 (a - b) := by unfold wrap32; omega
/-- the product of two numbers of 32 bits is one of 64 -/
theorem mul_bd (a b : Int) : -9223372036854775808 ≤ wrap32 a * wrap32 b ∧ wrap32 a * wrap32 b ≤ 9223372036854775807 := by
  have ha := w32_bd a
  have hb := w32_bd b
  have h : (wrap32 a * wrap32 b).natAbs ≤ 2147483648 * 2147483648 := by
    rw [Int.natAbs_mul]
    exact Nat.mul_le_mul (by omega) (by omega)
  omega

theorem tmod_bd (x y : Int) (h0 : -2147483648 ≤ x) (h1 : x ≤ 2147483647) : -2147483648 ≤ x.tmod y ∧ x.tmod y ≤ 2147483647 := by
  rcases Int.le_total 0 x with hx | hx
  · have h2 := Int.tmod_nonneg y hx
    have h3 : x.tmod y ≤ x := by
      have := Int.natAbs_tmod x y
      have := Nat.mod_le x.natAbs y.natAbs
      omega
    omega
  · have h2 : x.tmod y ≤ 0 := by
      have := Int.tmod_nonneg y (show 0 ≤ -x by omega)
      rw [Int.neg_tmod] at this
      omega
    have h3 : -(x.tmod y) ≤ -x := by
      have := Int.natAbs_tmod x y
      have := Nat.mod_le x.natAbs y.natAbs
      omega
    omega
theorem tdiv_bd (x y : Int) (h0 : -2147483648 ≤ x) (h1 : x ≤ 2147483647) (_h : y ≠ 0) : -2147483648 ≤ x.tdiv y ∧ x.tdiv y ≤ 2147483648 := by
  have h2 : (x.tdiv y).natAbs = x.natAbs / y.natAbs := Int.natAbs_tdiv x y
  have h3 := Nat.div_le_self x.natAbs y.natAbs
  generalize x.natAbs / y.natAbs = q at h2 h3
  omega

end Go.Proofs.YtiinkfejdnfonaaGreatDoor.Num
