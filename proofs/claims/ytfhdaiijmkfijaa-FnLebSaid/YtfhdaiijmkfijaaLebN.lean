/- Plain laws: numbers that are written in pieces are read as they were, and a number that is read is written in no more. No program in sight. -/
import Derived.Test.YtfhdaiijmkfijaaLeb
namespace Go.Proofs.Ytfhdaiijmkfijaa.Leb
open Go.RowKit Go.Proofs.Ytfhdaiijmkfijaa.Num

theorem pow7 (i : Nat) : (2 : Int) ^ (7 * (i + 1)) = 128 * 2 ^ (7 * i) := by
  rw [Nat.mul_add, Int.pow_add]
  have : (2 : Int) ^ (7 * 1) = 128 := by decide
  rw [this, Int.mul_comm]
theorem pow7_pos (i : Nat) : (0 : Int) < 2 ^ (7 * i) := Int.pow_pos (by omega)
theorem glue (x P : Int) : x % 128 * P + x / 128 * (128 * P) = x * P := by
  have h : x * P = (x % 128 + 128 * (x / 128)) * P := by rw [Int.emod_add_mul_ediv]
  rw [h, Int.add_mul, ← Int.mul_assoc, Int.mul_comm 128 (x / 128)]
theorem piece128 (x : Int) : (x % 128 + 128) % 128 = x % 128 := by omega

/-- a plain number is read as it was written; what is known of its last byte -/
theorem get_putU : ∀ (f i : Nat) (s x : Int) (r : List Int), 0 ≤ x → x < lim f →
    ∃ (l : Int) (k : Nat), get (f + 1) i s (putU (f + 1) x ++ r) = some (s + x * 2 ^ (7 * i), l, i + k) ∧ k = (putU (f + 1) x).length ∧ 1 ≤ k ∧ 0 ≤ l ∧ l < 128 ∧ l * 2 ^ (7 * (k - 1)) ≤ x
  | f, i, s, x, r, h0, h1 => by
    by_cases hs : x < 128
    · refine ⟨x, 1, ?_, ?_, by omega, h0, hs, by simp⟩
      · rw [putU_stop hs, List.singleton_append, get_stop hs, Int.emod_eq_of_lt h0 hs]
      · rw [putU_stop hs]; rfl
    · cases f with
      | zero => exact absurd h1 (by show ¬ x < 128; omega)
      | succ f =>
        obtain ⟨l, k, hg, hk, hk1, hl0, hl1, hb⟩ := get_putU f (i + 1) (s + x % 128 * 2 ^ (7 * i)) (x / 128) r (by omega) (lim_div h1)
        refine ⟨l, k + 1, ?_, ?_, by omega, hl0, hl1, ?_⟩
        · rw [putU_more (by omega), List.cons_append, get_more (by omega), piece128, hg]
          rw [pow7, Int.add_assoc, glue, Nat.add_assoc, Nat.add_comm 1 k]
        · rw [putU_more (by omega), List.length_cons, hk]
        · obtain ⟨q, rfl⟩ : ∃ q, k = q + 1 := ⟨k - 1, by omega⟩
          rw [Nat.add_sub_cancel] at hb ⊢
          rw [pow7]
          have e : l * (128 * 2 ^ (7 * q)) = 128 * (l * 2 ^ (7 * q)) := by rw [← Int.mul_assoc, Int.mul_comm l 128, Int.mul_assoc]
          rw [e]
          generalize l * 2 ^ (7 * q) = y at hb
          omega
/-- a number with a sign is read as it was written -/
theorem get_putS : ∀ (f i : Nat) (s x : Int) (r : List Int), -limS f ≤ x → x < limS f →
    ∃ (l z : Int) (k : Nat), get (f + 1) i s (putS (f + 1) x ++ r) = some (s + (x + if 64 ≤ l then 2 ^ (7 * k) else 0) * 2 ^ (7 * i), l, i + k) ∧ k = (putS (f + 1) x).length ∧ 1 ≤ k ∧ 0 ≤ l ∧ l < 128 ∧
      l = z % 128 ∧ -64 ≤ z ∧ z ≤ 63 ∧ z * 2 ^ (7 * (k - 1)) ≤ x ∧ x < (z + 1) * 2 ^ (7 * (k - 1))
  | f, i, s, x, r, h0, h1 => by
    by_cases hs : -64 ≤ x ∧ x ≤ 63
    · refine ⟨x % 128, x, 1, ?_, ?_, by omega, by omega, by omega, rfl, hs.1, hs.2, by simp, by simp; omega⟩
      · rw [putS_stop hs.1 hs.2, List.singleton_append, get_stop (by omega)]
        have e : x % 128 % 128 = x + if 64 ≤ x % 128 then 2 ^ (7 * 1) else 0 := by
          split
          · have : (2 : Int) ^ (7 * 1) = 128 := by decide
            omega
          · omega
        rw [e]
      · rw [putS_stop hs.1 hs.2]; rfl
    · cases f with
      | zero =>
        have h3 : x < 64 := h1
        have h4 : -64 ≤ x := h0
        omega
      | succ f =>
        obtain ⟨l, z, k, hg, hk, hk1, hl0, hl1, hz, hz0, hz1, hb0, hb1⟩ := get_putS f (i + 1) (s + x % 128 * 2 ^ (7 * i)) (x / 128) r (limS_div' h0) (limS_div h1)
        refine ⟨l, z, k + 1, ?_, ?_, by omega, hl0, hl1, hz, hz0, hz1, ?_, ?_⟩
        · rw [putS_more (by omega), List.cons_append, get_more (by omega), piece128, hg]
          have e : s + x % 128 * 2 ^ (7 * i) + (x / 128 + if 64 ≤ l then 2 ^ (7 * k) else 0) * 2 ^ (7 * (i + 1)) = s + (x + if 64 ≤ l then 2 ^ (7 * (k + 1)) else 0) * 2 ^ (7 * i) := by
            rw [pow7 i, Int.add_mul, Int.add_mul, Int.add_assoc, ← Int.add_assoc (x % 128 * 2 ^ (7 * i)), glue]
            congr 2
            split
            · rw [pow7 k, ← Int.mul_assoc, Int.mul_comm (2 ^ (7 * k)) 128]
            · simp
          rw [e, Nat.add_assoc, Nat.add_comm 1 k]
        · rw [putS_more (by omega), List.length_cons, hk]
        · obtain ⟨q, rfl⟩ : ∃ q, k = q + 1 := ⟨k - 1, by omega⟩
          rw [Nat.add_sub_cancel] at hb0 ⊢
          rw [pow7]
          have e : z * (128 * 2 ^ (7 * q)) = 128 * (z * 2 ^ (7 * q)) := by rw [← Int.mul_assoc, Int.mul_comm z 128, Int.mul_assoc]
          rw [e]
          generalize z * 2 ^ (7 * q) = y at hb0
          omega
        · obtain ⟨q, rfl⟩ : ∃ q, k = q + 1 := ⟨k - 1, by omega⟩
          rw [Nat.add_sub_cancel] at hb1 ⊢
          rw [pow7]
          have e : (z + 1) * (128 * 2 ^ (7 * q)) = 128 * ((z + 1) * 2 ^ (7 * q)) := by rw [← Int.mul_assoc, Int.mul_comm (z + 1) 128, Int.mul_assoc]
          rw [e]
          generalize (z + 1) * 2 ^ (7 * q) = y at hb1
          omega
theorem drop_app (bs r : List Int) : (bs ++ r).drop bs.length = r := by simp
/-- what PutU wrote, GetU reads -/
theorem getU_putU (bs : List Int) (x : Int) (h0 : 0 ≤ x) (h1 : x ≤ 4294967295) : getU (bs ++ putU 5 x) bs.length = (x, (bs.length : Int) + (putU 5 x).length, true) := by
  obtain ⟨l, k, hg, hk, hk1, hl0, hl1, hb⟩ := get_putU 4 0 0 x [] h0 (by show x < 34359738368; omega)
  have hkl : k = (putU 5 x).length := hk
  have hk5 : k ≤ 5 := by have := putU_le 5 x; omega
  clear hk
  have hp : pc (bs ++ putU 5 x) bs.length = (x, l, k) := by
    unfold pc
    rw [drop_app]
    rw [List.append_nil] at hg
    rw [hg]
    simp
  refine (getU_ok (by simp; omega) hp ?_).trans (by rw [hkl])
  rintro (h | ⟨h, h'⟩)
  · omega
  · subst h
    rw [show 7 * (5 - 1) = 28 from rfl] at hb
    have : (2 : Int) ^ 28 = 268435456 := by decide
    rw [this] at hb
    omega
/-- what PutS wrote, GetS reads -/
theorem getS_putS (bs : List Int) (x : Int) (h0 : -2147483648 ≤ x) (h1 : x ≤ 2147483647) : getS (bs ++ putS 5 x) bs.length = (x, (bs.length : Int) + (putS 5 x).length, true) := by
  obtain ⟨l, z, k, hg, hk, hk1, hl0, hl1, hz, hz0, hz1, hb0, hb1⟩ := get_putS 4 0 0 x [] (by show -(17179869184 : Int) ≤ x; omega) (by show x < (17179869184 : Int); omega)
  have hkl : k = (putS 5 x).length := hk
  have hk5 : k ≤ 5 := by have := putS_le 5 x; omega
  clear hk
  have hp : pc (bs ++ putS 5 x) bs.length = (x + if 64 ≤ l then 2 ^ (7 * k) else 0, l, k) := by
    unfold pc
    rw [drop_app]
    rw [List.append_nil] at hg
    rw [hg]
    simp
  refine (getS_ok (by simp; omega) hp ?_).trans ?_
  · rintro (h | ⟨h, h', h''⟩)
    · omega
    · subst h
      rw [show 7 * (5 - 1) = 28 from rfl] at hb0 hb1
      have : (2 : Int) ^ 28 = 268435456 := by decide
      rw [this] at hb0 hb1
      omega
  · rw [hkl]
    congr 1
    split <;> omega
end Go.Proofs.Ytfhdaiijmkfijaa.Leb
