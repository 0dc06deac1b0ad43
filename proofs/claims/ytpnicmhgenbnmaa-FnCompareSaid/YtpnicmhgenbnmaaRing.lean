/- Plain laws: what must be true of sums, products, quotients and bits of numbers of 32 bits. -/
import Derived.Test.YtpnicmhgenbnmaaBit
namespace Go.Proofs.Ytpnicmhgenbnmaa.Ring
open Go.RowKit Go.Proofs.Ytpnicmhgenbnmaa.Num Go.Proofs.Ytpnicmhgenbnmaa.Bit

section
variable (a b c d : Int)
theorem add_comm' : wrap32 (wrap32 b + wrap32 a) = wrap32 (wrap32 a + wrap32 b) := by rw [Int.add_comm]
theorem sub_back : wrap32 (wrap32 (wrap32 (wrap32 a + wrap32 b)) - wrap32 b) = wrap32 a := by unfold wrap32; omega
theorem mul_cast (x y : Int) : wrap32 (wrap32 x * wrap32 y) % 4294967296 = x * y % 4294967296 := by rw [w32_mul, mod_w32]
theorem distrib : wrap32 (wrap32 c * wrap32 (wrap32 (wrap32 a + wrap32 b))) = wrap32 (wrap32 (wrap32 (wrap32 c * wrap32 a)) + wrap32 (wrap32 (wrap32 c * wrap32 b))) := by
  rw [w32_w32, w32_w32, w32_w32]
  refine w32_eq ?_
  have h1 := mul_cong (mod_w32 c) (mod_w32 (wrap32 a + wrap32 b))
  rw [h1, Int.mul_add]
  have h2 := mul_cong (rfl : c % 4294967296 = c % 4294967296) (mod_w32 a)
  have h3 := mul_cong (rfl : c % 4294967296 = c % 4294967296) (mod_w32 b)
  have h4 := mul_cast c a
  have h5 := mul_cast c b
  omega
theorem mul_comm' : wrap32 (wrap32 d * wrap32 c) = wrap32 (wrap32 c * wrap32 d) := by rw [Int.mul_comm]
theorem plain_wrap (x : Int) : wrap32 (wrap32 x) % 4294967296 = wrap32 x % 4294967296 := by rw [w32_w32]
theorem wrap_plain (x : Int) : wrap32 (wrap32 x % 4294967296) = wrap32 x := by rw [w32_mod, w32_w32]

attribute [local irreducible] bitsV
/-- quotient times divisor and the rest -/
theorem again (q r : Int) (h : (q * b + r) % 4294967296 = a % 4294967296) : wrap32 (wrap32 (wrap32 (wrap32 q * wrap32 b)) + wrap32 r) = wrap32 a := by
  rw [w32_w32]
  refine w32_eq ?_
  have h1 := mul_cast q b
  have h2 := mod_w32 r
  omega
theorem againS : wrap32 (wrap32 (wrap32 (wrap32 ((wrap32 a).tdiv (wrap32 b)) * wrap32 b)) + wrap32 ((wrap32 a).tmod (wrap32 b))) = wrap32 a := by
  refine again a b _ _ ?_
  have h := Int.mul_tdiv_add_tmod (wrap32 a) (wrap32 b)
  have h1 := mul_cong (rfl : (wrap32 a).tdiv (wrap32 b) % 4294967296 = _) (mod_w32 b)
  have h2 := mod_w32 a
  rw [Int.mul_comm] at h
  generalize (wrap32 a).tdiv (wrap32 b) * wrap32 b = p at h h1
  omega
theorem againU : wrap32 (wrap32 (wrap32 (wrap32 (wrap32 (a % 4294967296 / (b % 4294967296))) * wrap32 b)) + wrap32 (wrap32 (a % 4294967296 % (b % 4294967296)))) = wrap32 a := by
  rw [w32_w32 (a % 4294967296 / (b % 4294967296)), w32_w32 (a % 4294967296 % (b % 4294967296))]
  refine again a b _ _ ?_
  have h := Int.mul_ediv_add_emod (a % 4294967296) (b % 4294967296)
  have h1 := mul_cong (rfl : (a % 4294967296 / (b % 4294967296)) % 4294967296 = _) (show b % 4294967296 % 4294967296 = b % 4294967296 by omega)
  rw [Int.mul_comm] at h
  generalize a % 4294967296 / (b % 4294967296) * (b % 4294967296) = p at h h1
  omega
theorem rest_lt (h : b % 4294967296 ≠ 0) : wrap32 (a % 4294967296 % (b % 4294967296)) % 4294967296 < b % 4294967296 := by
  have h0 := mod_bd b
  have h1 := Int.emod_lt_of_pos (a % 4294967296) (show 0 < b % 4294967296 by omega)
  have h2 := Int.emod_nonneg (a % 4294967296) h
  rw [mod_w32]
  omega
theorem over_rest : (-2147483648 : Int).tmod (-1) = 0 := by decide
theorem zero_iff : wrap32 b = 0 ↔ b % 4294967296 = 0 := by unfold wrap32; omega

end

theorem and_or_add : ∀ x y : Nat, (x &&& y) + (x ||| y) = x + y := by
  intro x
  induction x using Nat.strongRecOn with
  | _ x ih =>
    intro y
    rcases Nat.eq_zero_or_pos x with h0 | h0
    · subst h0; simp
    · have hr := ih (x / 2) (by omega) (y / 2)
      have h1 : (x &&& y) / 2 = x / 2 &&& y / 2 := Nat.and_div_two
      have h2 : (x ||| y) / 2 = x / 2 ||| y / 2 := Nat.or_div_two
      have h3 : (x &&& y) % 2 = 1 ↔ x % 2 = 1 ∧ y % 2 = 1 := Nat.and_mod_two_eq_one
      have h4 : (x ||| y) % 2 = 1 ↔ x % 2 = 1 ∨ y % 2 = 1 := Nat.or_mod_two_eq_one
      omega
theorem and_xor_or : ∀ x y : Nat, (x &&& y) + (x ^^^ y) = x ||| y := by
  intro x
  induction x using Nat.strongRecOn with
  | _ x ih =>
    intro y
    rcases Nat.eq_zero_or_pos x with h0 | h0
    · subst h0; simp
    · have hr := ih (x / 2) (by omega) (y / 2)
      have h1 : (x &&& y) / 2 = x / 2 &&& y / 2 := Nat.and_div_two
      have h2 : (x ||| y) / 2 = x / 2 ||| y / 2 := Nat.or_div_two
      have h5 : (x ^^^ y) / 2 = x / 2 ^^^ y / 2 := Nat.xor_div_two
      have h3 : (x &&& y) % 2 = 1 ↔ x % 2 = 1 ∧ y % 2 = 1 := Nat.and_mod_two_eq_one
      have h4 : (x ||| y) % 2 = 1 ↔ x % 2 = 1 ∨ y % 2 = 1 := Nat.or_mod_two_eq_one
      have h6 : (x ^^^ y) % 2 = 1 ↔ ¬ (x % 2 = 1 ↔ y % 2 = 1) := Nat.xor_mod_two_eq_one
      omega

section
variable (a b : Int)
theorem sum_of (x y p q : Int) (h : p + q = x % 4294967296 + y % 4294967296) : wrap32 (wrap32 (wrap32 p) + wrap32 (wrap32 q)) = wrap32 (wrap32 x + wrap32 y) := by
  rw [w32_w32, w32_w32]
  refine w32_eq ?_
  have m1 := mod_w32 p
  have m2 := mod_w32 q
  have m3 := mod_w32 x
  have m4 := mod_w32 y
  omega
theorem dif_of (p q r : Int) (h : p + r = q) : wrap32 (wrap32 (wrap32 q) - wrap32 (wrap32 p)) = wrap32 r := by
  rw [w32_w32, w32_w32]
  refine w32_eq ?_
  have m1 := mod_w32 p
  have m2 := mod_w32 q
  omega
theorem bits_add : wrap32 (wrap32 (bitsV 1 a b) + wrap32 (bitsV 2 a b)) = wrap32 (wrap32 a + wrap32 b) := by
  have h := and_or_add (pl a) (pl b)
  rw [← V1, ← V2]
  refine sum_of _ _ _ _ ?_
  rw [← pl_cast a, ← pl_cast b, ← Int.natCast_add, ← Int.natCast_add, h]
theorem bits_sub : wrap32 (wrap32 (bitsV 2 a b) - wrap32 (bitsV 1 a b)) = bitsV 3 a b := by
  have h := and_xor_or (pl a) (pl b)
  rw [← V1, ← V2, ← V3]
  refine dif_of _ _ _ ?_
  rw [← Int.natCast_add, h]
theorem bits_dbl : bitsV 4 a 1 = wrap32 (wrap32 a + wrap32 a) := by
  have h1 := pl_cast a
  have h2 : pl 1 % 32 = 1 := by unfold pl; omega
  have h3 := V4 a 1
  rw [h2] at h3
  rw [← h3]
  refine w32_eq ?_
  have h4 := mod_w32 a
  rw [show ((pl a * 2 ^ 1 : Nat) : Int) = (pl a : Int) * 2 from by simp, h1]
  clear h1 h2 h3
  omega
theorem turn_back (x k : Nat) (hx : x < 2 ^ 32) (hk : k < 32) : rotl (rotl x k) ((32 - k) % 32) = x := by
  by_cases h0 : k = 0
  · subst h0
    unfold rotl
    simp
    omega
  · rw [Nat.mod_eq_of_lt (show 32 - k < 32 by omega)]
    have e : rotl x k = x % 2 ^ (32 - k) * 2 ^ k + x / 2 ^ (32 - k) := by unfold rotl; rw [mod_hi x k (by omega)]
    have hl := hi_lt x k hx (by omega)
    have hp : 0 < 2 ^ k := Nat.pow_pos (by omega)
    unfold rotl at e ⊢
    rw [e, mod_hi _ (32 - k) (by omega), show 32 - (32 - k) = k from by omega]
    have h1 : (x % 2 ^ (32 - k) * 2 ^ k + x / 2 ^ (32 - k)) % 2 ^ k = x / 2 ^ (32 - k) := by
      rw [Nat.add_comm, Nat.add_mul_mod_self_right]; exact Nat.mod_eq_of_lt hl
    have h2 : (x % 2 ^ (32 - k) * 2 ^ k + x / 2 ^ (32 - k)) / 2 ^ k = x % 2 ^ (32 - k) := by
      rw [Nat.add_comm, Nat.add_mul_div_right _ _ hp, Nat.div_eq_of_lt hl]; omega
    rw [h1, h2, Nat.mul_comm]
    exact Nat.div_add_mod x (2 ^ (32 - k))
theorem bits_turn : bitsV 8 (bitsV 7 a b) b = wrap32 a := by
  rw [← V8, ← V7]
  have hx := pl_lt a
  have hr := rotl_lt (pl a) (pl b % 32) hx (by omega)
  have h1 : pl (wrap32 ((rotl (pl a) (pl b % 32) : Nat) : Int)) = rotl (pl a) (pl b % 32) := by
    show (wrap32 _ % 4294967296).toNat = _
    rw [mod_w32]
    omega
  rw [h1, turn_back (pl a) (pl b % 32) hx (Nat.mod_lt _ (by omega))]
  exact w32_eq (by have := pl_cast a; omega)
end

end Go.Proofs.Ytpnicmhgenbnmaa.Ring
