/- Plain laws on the bits of numbers of 32 bits: no program in sight. -/
import Derived.WalkKit
import Derived.Test.YticikmjelagafaaDoorNum
namespace Go.Proofs.YticikmjelagafaaDoor.Bit
open Go.RowKit Go.Proofs.YticikmjelagafaaDoor.Num

/-- the plain number, as a natural one -/
def pl (a : Int) : Nat := (a % 4294967296).toNat
theorem pl_lt (a : Int) : pl a < 2 ^ 32 := by unfold pl; omega
theorem pl_cast (a : Int) : ((pl a : Nat) : Int) = a % 4294967296 := by unfold pl; omega
theorem pl_mod (b : Int) : (b % 32).toNat = pl b % 32 := by unfold pl; omega
def rotl (x k : Nat) : Nat := x * 2 ^ k % 2 ^ 32 + x / 2 ^ (32 - k)

/-- what Bits computes -/
def bitsV (op a b : Int) : Int :=
  if op = 1 then wrap32 ((pl a &&& pl b : Nat) : Int)
  else if op = 2 then wrap32 ((pl a ||| pl b : Nat) : Int)
  else if op = 3 then wrap32 ((pl a ^^^ pl b : Nat) : Int)
  else if op = 4 then wrap32 ((pl a * 2 ^ (pl b % 32) : Nat) : Int)
  else if op = 5 then wrap32 a / 2 ^ (pl b % 32)
  else if op = 6 then wrap32 ((pl a / 2 ^ (pl b % 32) : Nat) : Int)
  else if op = 7 then wrap32 ((rotl (pl a) (pl b % 32) : Nat) : Int)
  else if op = 8 then wrap32 ((rotl (pl a) ((32 - pl b % 32) % 32) : Nat) : Int)
  else 0

theorem V1 (a b : Int) : wrap32 ((pl a &&& pl b : Nat) : Int) = bitsV 1 a b := by
  unfold bitsV
  rw [if_pos rfl]
theorem V2 (a b : Int) : wrap32 ((pl a ||| pl b : Nat) : Int) = bitsV 2 a b := by
  unfold bitsV
  rw [if_neg (by omega), if_pos rfl]
theorem V3 (a b : Int) : wrap32 ((pl a ^^^ pl b : Nat) : Int) = bitsV 3 a b := by
  unfold bitsV
  rw [if_neg (by omega), if_neg (by omega), if_pos rfl]
theorem V4 (a b : Int) : wrap32 ((pl a * 2 ^ (pl b % 32) : Nat) : Int) = bitsV 4 a b := by
  unfold bitsV
  rw [if_neg (by omega), if_neg (by omega), if_neg (by omega), if_pos rfl]
theorem V5 (a b : Int) : wrap32 a / 2 ^ (pl b % 32) = bitsV 5 a b := by
  unfold bitsV
  rw [if_neg (by omega), if_neg (by omega), if_neg (by omega), if_neg (by omega), if_pos rfl]
theorem V6 (a b : Int) : wrap32 ((pl a / 2 ^ (pl b % 32) : Nat) : Int) = bitsV 6 a b := by
  unfold bitsV
  rw [if_neg (by omega), if_neg (by omega), if_neg (by omega), if_neg (by omega), if_neg (by omega), if_pos rfl]
theorem V7 (a b : Int) : wrap32 ((rotl (pl a) (pl b % 32) : Nat) : Int) = bitsV 7 a b := by
  unfold bitsV
  rw [if_neg (by omega), if_neg (by omega), if_neg (by omega), if_neg (by omega), if_neg (by omega), if_neg (by omega), if_pos rfl]
theorem V8 (a b : Int) : wrap32 ((rotl (pl a) ((32 - pl b % 32) % 32) : Nat) : Int) = bitsV 8 a b := by
  unfold bitsV
  rw [if_neg (by omega), if_neg (by omega), if_neg (by omega), if_neg (by omega), if_neg (by omega), if_neg (by omega), if_neg (by omega), if_pos rfl]
theorem i64_of (m : Nat) (h : m < 2 ^ 63) : IntKind.i64.wrap (m : Int) = m := IntWalk.i64_in _ (by omega)
theorem toNat64 (a : Nat) (h : a < 2 ^ 64) : (BitVec.ofInt 64 (a : Int)).toNat = a := by
  rw [BitVec.ofInt_natCast, BitVec.toNat_ofNat]; exact Nat.mod_eq_of_lt h
theorem i64_and (a b : Nat) (ha : a < 2 ^ 63) (hb : b < 2 ^ 63) : bits .and .i64 (a : Int) (b : Int) = ((a &&& b : Nat) : Int) := by
  show IntKind.i64.wrap ((BitVec.ofInt 64 (a : Int) &&& BitVec.ofInt 64 (b : Int)).toNat : Int) = _
  rw [BitVec.toNat_and, toNat64 a (by omega), toNat64 b (by omega)]
  exact i64_of _ (Nat.and_lt_two_pow _ hb)
theorem i64_or (a b : Nat) (ha : a < 2 ^ 63) (hb : b < 2 ^ 63) : bits .or .i64 (a : Int) (b : Int) = ((a ||| b : Nat) : Int) := by
  show IntKind.i64.wrap ((BitVec.ofInt 64 (a : Int) ||| BitVec.ofInt 64 (b : Int)).toNat : Int) = _
  rw [BitVec.toNat_or, toNat64 a (by omega), toNat64 b (by omega)]
  exact i64_of _ (Nat.or_lt_two_pow ha hb)
theorem i64_xor (a b : Nat) (ha : a < 2 ^ 63) (hb : b < 2 ^ 63) : bits .xor .i64 (a : Int) (b : Int) = ((a ^^^ b : Nat) : Int) := by
  show IntKind.i64.wrap ((BitVec.ofInt 64 (a : Int) ^^^ BitVec.ofInt 64 (b : Int)).toNat : Int) = _
  rw [BitVec.toNat_xor, toNat64 a (by omega), toNat64 b (by omega)]
  exact i64_of _ (Nat.xor_lt_two_pow ha hb)

theorem w64_w32 (n : Int) : wrap64 (wrap32 n) = wrap32 n := IntWalk.wrap64_in _ (by have := w32_bd n; omega)
theorem w32_w64 (n : Int) : wrap32 (wrap64 n) = wrap32 n := by unfold wrap32 wrap64; omega

theorem sar_bd (x : Int) (k : Nat) (h0 : -2147483648 ≤ x) (h1 : x ≤ 2147483647) : -2147483648 ≤ x / 2 ^ k ∧ x / 2 ^ k ≤ 2147483647 := by
  have hp : (0 : Int) < 2 ^ k := Int.pow_pos (by omega)
  constructor
  · rw [Int.le_ediv_iff_mul_le hp]
    have : (-2147483648 : Int) * 2 ^ k ≤ -2147483648 * 1 := Int.mul_le_mul_of_nonpos_left (by omega) (by omega)
    omega
  · have : x / 2 ^ k < 2147483648 := by
      rw [Int.ediv_lt_iff_lt_mul hp]
      have : (2147483648 : Int) * 1 ≤ 2147483648 * 2 ^ k := Int.mul_le_mul_of_nonneg_left (by omega) (by omega)
      omega
    omega

/-- the lower part of a number that is turned left: its multiple of 2^k -/
theorem mod_hi (x k : Nat) (hk : k ≤ 32) : x * 2 ^ k % 2 ^ 32 = (x % 2 ^ (32 - k)) * 2 ^ k := by
  have h : (2 : Nat) ^ 32 = 2 ^ (32 - k) * 2 ^ k := by rw [← Nat.pow_add]; congr 1; omega
  rw [h, Nat.mul_mod_mul_right]
theorem hi_lt (x k : Nat) (hx : x < 2 ^ 32) (hk : k ≤ 32) : x / 2 ^ (32 - k) < 2 ^ k := by
  rw [Nat.div_lt_iff_lt_mul (Nat.pow_pos (by omega)), ← Nat.pow_add]
  have : k + (32 - k) = 32 := by omega
  rwa [this]
theorem or_join (h l k : Nat) (hl : l < 2 ^ k) : h * 2 ^ k ||| l = h * 2 ^ k + l := nat_join k _ _ (Nat.mul_mod_left _ _) hl
theorem rotl_or (x k : Nat) (hx : x < 2 ^ 32) (hk : k ≤ 32) : (x * 2 ^ k % 2 ^ 32) ||| x / 2 ^ (32 - k) = rotl x k := by
  unfold rotl
  rw [mod_hi x k hk]
  exact or_join _ _ _ (hi_lt x k hx hk)
theorem rotl_lt (x k : Nat) (hx : x < 2 ^ 32) (hk : k ≤ 32) : rotl x k < 2 ^ 32 := by
  rw [← rotl_or x k hx hk]
  exact Nat.or_lt_two_pow (Nat.mod_lt _ (by omega)) (Nat.lt_of_le_of_lt (Nat.div_le_self _ _) hx)
theorem rotl_wide (x k : Nat) (hx : x < 2 ^ 32) (hk : k ≤ 32) : wrap32 ((x * 2 ^ k ||| x / 2 ^ (32 - k) : Nat) : Int) = wrap32 ((rotl x k : Nat) : Int) := by
  rw [or_join x _ k (hi_lt x k hx hk)]
  refine w32_eq ?_
  unfold rotl
  omega
theorem rotr_wide (x k : Nat) (hx : x < 2 ^ 32) (hk : k < 32) : wrap32 ((x / 2 ^ k ||| x * 2 ^ (32 - k) : Nat) : Int) = wrap32 ((rotl x ((32 - k) % 32) : Nat) : Int) := by
  have h := hi_lt x (32 - k) hx (by omega)
  rw [show 32 - (32 - k) = k from by omega] at h
  rw [Nat.or_comm, or_join x _ (32 - k) h]
  refine w32_eq ?_
  unfold rotl
  by_cases h0 : k = 0
  · subst h0
    simp
    omega
  · rw [Nat.mod_eq_of_lt (show 32 - k < 32 by omega), show 32 - (32 - k) = k from by omega]
    omega

theorem shl_lt (x k : Nat) (hx : x < 2 ^ 32) (hk : k ≤ 31) : x * 2 ^ k < 2 ^ 63 := by
  have h : 2 ^ k ≤ 2 ^ 31 := Nat.pow_le_pow_right (by omega) hk
  calc x * 2 ^ k ≤ (2 ^ 32 - 1) * 2 ^ 31 := Nat.mul_le_mul (by omega) h
    _ < 2 ^ 63 := by decide
theorem shl_le (x k : Nat) (hx : x < 2 ^ 32) (hk : k ≤ 32) : x * 2 ^ k < 2 ^ 64 := by
  have h : 2 ^ k ≤ 2 ^ 32 := Nat.pow_le_pow_right (by omega) hk
  calc x * 2 ^ k ≤ (2 ^ 32 - 1) * 2 ^ 32 := Nat.mul_le_mul (by omega) h
    _ < 2 ^ 64 := by decide

theorem i64_or_w32 (a b : Nat) (x y : Int) (hx : x % 18446744073709551616 = (a : Int)) (hy : y % 18446744073709551616 = (b : Int)) : wrap32 (bits .or .i64 x y) = wrap32 ((a ||| b : Nat) : Int) := by
  have h1 : (BitVec.ofInt 64 x).toNat = a := by rw [BitVec.toNat_ofInt]; omega
  have h2 : (BitVec.ofInt 64 y).toNat = b := by rw [BitVec.toNat_ofInt]; omega
  show wrap32 (IntKind.i64.wrap ((BitVec.ofInt 64 x ||| BitVec.ofInt 64 y).toNat : Int)) = _
  rw [BitVec.toNat_or, h1, h2, IntWalk.i64_left, w32_w64]
theorem nat_small (m : Nat) (h : m < 2 ^ 64) : (m : Int) % 18446744073709551616 = (m : Int) := by omega
theorem w64_mod (n : Int) : wrap64 n % 18446744073709551616 = n % 18446744073709551616 := by unfold wrap64; omega

/-! the ways in which the two functions write it -/
section
variable (a b : Int)
theorem kk : (b % 32).toNat = pl b % 32 := by unfold pl; omega
theorem k_lt : pl b % 32 < 32 := Nat.mod_lt _ (by omega)
theorem u_and : bits .and .u32 (a % 4294967296) (b % 4294967296) = ((pl a &&& pl b : Nat) : Int) := u32_and _ _ (by omega) (by omega) (by omega) (by omega)
theorem u_or : bits .or .u32 (a % 4294967296) (b % 4294967296) = ((pl a ||| pl b : Nat) : Int) := u32_or _ _ (by omega) (by omega) (by omega) (by omega)
theorem u_xor : bits .xor .u32 (a % 4294967296) (b % 4294967296) = ((pl a ^^^ pl b : Nat) : Int) := u32_xor _ _ (by omega) (by omega) (by omega) (by omega)
theorem s_and : bits .and .i64 (a % 4294967296) (b % 4294967296) = ((pl a &&& pl b : Nat) : Int) := by
  rw [← pl_cast a, ← pl_cast b]; exact i64_and _ _ (by have := pl_lt a; omega) (by have := pl_lt b; omega)
theorem s_or : bits .or .i64 (a % 4294967296) (b % 4294967296) = ((pl a ||| pl b : Nat) : Int) := by
  rw [← pl_cast a, ← pl_cast b]; exact i64_or _ _ (by have := pl_lt a; omega) (by have := pl_lt b; omega)
theorem s_xor : bits .xor .i64 (a % 4294967296) (b % 4294967296) = ((pl a ^^^ pl b : Nat) : Int) := by
  rw [← pl_cast a, ← pl_cast b]; exact i64_xor _ _ (by have := pl_lt a; omega) (by have := pl_lt b; omega)
theorem c_shl : a % 4294967296 * 2 ^ (b % 32).toNat = ((pl a * 2 ^ (pl b % 32) : Nat) : Int) := by
  rw [kk, ← pl_cast a]; simp
theorem c_shr : a % 4294967296 / 2 ^ (b % 32).toNat = ((pl a / 2 ^ (pl b % 32) : Nat) : Int) := by
  rw [kk, ← pl_cast a]; simp
theorem i_shl : wrap32 (a % 4294967296 * 2 ^ (b % 32).toNat % 4294967296) = wrap32 ((pl a * 2 ^ (pl b % 32) : Nat) : Int) := by rw [w32_mod, c_shl]
theorem s_shl : wrap32 (wrap64 (a % 4294967296 * 2 ^ (b % 32).toNat)) = wrap32 ((pl a * 2 ^ (pl b % 32) : Nat) : Int) := by rw [w32_w64, c_shl]
theorem s_sar : wrap32 (wrap32 a / 2 ^ (b % 32).toNat) = wrap32 a / 2 ^ (pl b % 32) := by
  rw [kk]
  have h := sar_bd (wrap32 a) (pl b % 32) (w32_bd a).1 (w32_bd a).2
  exact w32_self h.1 h.2
/-- what RotateLeft32 writes -/
theorem u_rot (x k : Nat) (hx : x < 2 ^ 32) (hk : k < 32) : bits .or .u32 ((x : Int) * 2 ^ k % 4294967296) ((x : Int) / 2 ^ (32 - k)) = ((rotl x k : Nat) : Int) := by
  have h1 : (x : Int) * 2 ^ k % 4294967296 = ((x * 2 ^ k % 2 ^ 32 : Nat) : Int) := by simp
  have h2 : (x : Int) / 2 ^ (32 - k) = ((x / 2 ^ (32 - k) : Nat) : Int) := by simp
  rw [h1, h2, u32_or_nat _ _ (Nat.mod_lt _ (by omega)) (Nat.lt_of_le_of_lt (Nat.div_le_self _ _) hx), rotl_or x k hx (by omega)]
theorem s_rotl : wrap32 (bits .or .i64 (wrap64 (a % 4294967296 * 2 ^ (b % 32).toNat)) (a % 4294967296 / 2 ^ (32 - b % 32).toNat)) = wrap32 ((rotl (pl a) (pl b % 32) : Nat) : Int) := by
  have hk := k_lt b
  have hx := pl_lt a
  have h1 := shl_le (pl a) (pl b % 32) hx (by omega)
  have h2 : (32 - b % 32).toNat = 32 - pl b % 32 := by rw [← kk]; omega
  have h3 : pl a / 2 ^ (32 - pl b % 32) < 2 ^ 64 := Nat.lt_of_le_of_lt (Nat.div_le_self _ _) (by omega)
  rw [← rotl_wide _ _ hx (by omega), h2]
  refine i64_or_w32 _ _ _ _ ?_ ?_
  · rw [w64_mod, c_shl]; omega
  · rw [show a % 4294967296 / 2 ^ (32 - pl b % 32) = ((pl a / 2 ^ (32 - pl b % 32) : Nat) : Int) from by rw [← pl_cast a]; simp]; exact nat_small _ h3
theorem s_rotr : wrap32 (bits .or .i64 (a % 4294967296 / 2 ^ (b % 32).toNat) (wrap64 (a % 4294967296 * 2 ^ (32 - b % 32).toNat))) = wrap32 ((rotl (pl a) ((32 - pl b % 32) % 32) : Nat) : Int) := by
  have hk := k_lt b
  have hx := pl_lt a
  have h1 := shl_le (pl a) (32 - pl b % 32) hx (by omega)
  have h2 : (32 - b % 32).toNat = 32 - pl b % 32 := by rw [← kk]; omega
  have h3 : pl a / 2 ^ (pl b % 32) < 2 ^ 64 := Nat.lt_of_le_of_lt (Nat.div_le_self _ _) (by omega)
  rw [← rotr_wide _ _ hx hk, h2]
  refine i64_or_w32 _ _ _ _ ?_ ?_
  · rw [c_shr]; exact nat_small _ h3
  · rw [w64_mod, show a % 4294967296 * 2 ^ (32 - pl b % 32) = ((pl a * 2 ^ (32 - pl b % 32) : Nat) : Int) from by rw [← pl_cast a]; simp]; omega
theorem mask31 (k : Int) (h0 : 0 ≤ k) (h1 : k ≤ 31) : bits .and .u64 k 31 = k := by
  rw [u64_and k 31 h0 (by omega) (by omega) (by omega)]
  have : k.toNat &&& (31 : Int).toNat = k.toNat % 32 := nat_mask5 k.toNat
  rw [this]
  omega
theorem mask31_neg (k : Int) (h0 : -31 ≤ k) (h1 : k ≤ -1) : bits .and .u64 (IntKind.u64.wrap k) 31 = 32 + k := by
  rw [IntKind.wrap_u64, u64_and _ 31 (by omega) (by omega) (by omega) (by omega)]
  have : (k % 18446744073709551616).toNat &&& (31 : Int).toNat = (k % 18446744073709551616).toNat % 32 := nat_mask5 _
  rw [this]
  omega
end

end Go.Proofs.YticikmjelagafaaDoor.Bit
