/- Plain laws on numbers in pieces of seven bits: no program in sight. -/
import Derived.WalkKit
import Derived.Test.YtiinkfejdnfonaaGreatDoorNum
namespace Go.Proofs.YtiinkfejdnfonaaGreatDoor.Leb
open Go.RowKit Go.Proofs.YtiinkfejdnfonaaGreatDoor.Num

/-- the pieces of a plain number, with fuel -/
def putU : Nat → Int → List Int
  | 0, _ => []
  | f + 1, n => if n < 128 then [n] else (n % 128 + 128) :: putU f (n / 128)
/-- the pieces of a number with a sign, with fuel -/
def putS : Nat → Int → List Int
  | 0, _ => []
  | f + 1, n => if -64 ≤ n ∧ n ≤ 63 then [n % 128] else (n % 128 + 128) :: putS f (n / 128)

theorem putU_stop {f : Nat} {n : Int} (h : n < 128) : putU (f + 1) n = [n] := by rw [putU, if_pos h]
theorem putU_more {f : Nat} {n : Int} (h : 128 ≤ n) : putU (f + 1) n = (n % 128 + 128) :: putU f (n / 128) := by rw [putU, if_neg (by omega)]
theorem putS_stop {f : Nat} {n : Int} (h : -64 ≤ n) (h' : n ≤ 63) : putS (f + 1) n = [n % 128] := by rw [putS, if_pos ⟨h, h'⟩]
theorem putS_more {f : Nat} {n : Int} (h : n < -64 ∨ 63 < n) : putS (f + 1) n = (n % 128 + 128) :: putS f (n / 128) := by rw [putS, if_neg (by omega)]

theorem putU_le : ∀ (f : Nat) (n : Int), (putU f n).length ≤ f
  | 0, _ => by simp [putU]
  | f + 1, n => by
    rw [putU]
    split
    · simp
    · have := putU_le f (n / 128); simp; omega
theorem putS_le : ∀ (f : Nat) (n : Int), (putS f n).length ≤ f
  | 0, _ => by simp [putS]
  | f + 1, n => by
    rw [putS]
    split
    · simp
    · have := putS_le f (n / 128); simp; omega
theorem putU_byte : ∀ (f : Nat) (n : Int), 0 ≤ n → ∀ x ∈ putU f n, 0 ≤ x ∧ x ≤ 255
  | 0, _, _ => by simp [putU]
  | f + 1, n, h0 => by
    rw [putU]
    split
    · simp; omega
    · have := putU_byte f (n / 128) (by omega)
      intro x hx
      rcases List.mem_cons.1 hx with rfl | hx
      · omega
      · exact this x hx
theorem putS_byte : ∀ (f : Nat) (n : Int), ∀ x ∈ putS f n, 0 ≤ x ∧ x ≤ 255
  | 0, _ => by simp [putS]
  | f + 1, n => by
    rw [putS]
    split
    · simp; omega
    · have := putS_byte f (n / 128)
      intro x hx
      rcases List.mem_cons.1 hx with rfl | hx
      · omega
      · exact this x hx

/-- what f + 1 pieces hold: below lim f -/
def lim : Nat → Int
  | 0 => 128
  | f + 1 => 128 * lim f
theorem lim_div {f : Nat} {x : Int} (h : x < lim (f + 1)) : x / 128 < lim f := by
  have : lim (f + 1) = 128 * lim f := rfl
  generalize lim f = y at *
  omega
theorem and127 (x : Int) : bits .and .i64 x 127 = x % 128 := by
  show IntKind.i64.wrap ((BitVec.ofInt 64 x &&& BitVec.ofInt 64 127).toNat : Int) = _
  have h2 : (BitVec.ofInt 64 127).toNat = 2 ^ 7 - 1 := by decide
  rw [BitVec.toNat_and, h2, Nat.and_two_pow_sub_one_eq_mod, BitVec.toNat_ofInt, IntKind.wrap_i64]
  omega
def limS : Nat → Int
  | 0 => 64
  | f + 1 => 128 * limS f
theorem limS_div {f : Nat} {x : Int} (h : x < limS (f + 1)) : x / 128 < limS f := by
  have : limS (f + 1) = 128 * limS f := rfl
  generalize limS f = y at *
  omega
theorem limS_div' {f : Nat} {x : Int} (h : -limS (f + 1) ≤ x) : -limS f ≤ x / 128 := by
  have : limS (f + 1) = 128 * limS f := rfl
  generalize limS f = y at *
  omega

/-- a plain number's pieces read from the front: the sum, the last byte, how many; 'i' pieces are behind -/
def get : Nat → Nat → Int → List Int → Option (Int × Int × Nat)
  | 0, _, _, _ => none
  | _ + 1, _, _, [] => none
  | f + 1, i, s, x :: r => if x < 128 then some (s + x % 128 * 2 ^ (7 * i), x, i + 1) else get f (i + 1) (s + x % 128 * 2 ^ (7 * i)) r

theorem get_stop {f i : Nat} {s x : Int} {r : List Int} (h : x < 128) : get (f + 1) i s (x :: r) = some (s + x % 128 * 2 ^ (7 * i), x, i + 1) := by rw [get, if_pos h]
theorem get_more {f i : Nat} {s x : Int} {r : List Int} (h : 128 ≤ x) : get (f + 1) i s (x :: r) = get f (i + 1) (s + x % 128 * 2 ^ (7 * i)) r := by rw [get, if_neg (by omega)]
theorem get_nil (f i : Nat) (s : Int) : get f i s [] = none := by cases f <;> rfl
/-- what a reader of pieces hands back: sum, last byte, how many; nothing where they do not end -/
def pc (bs : List Int) (a : Nat) : Int × Int × Nat := (get 5 0 0 (bs.drop a)).getD (0, 0, 0)
theorem piece (v : Int) (k : Nat) (_h : 0 ≤ v) (hk : k ≤ 4) : ∃ p, v % 128 * 2 ^ (7 * k) = p ∧ 0 ≤ p ∧ p ≤ 34091302912 ∧ Hid (∀ y : Int, y < 2 ^ (7 * k) → y + p < 2 ^ (7 * (k + 1))) := by
  refine ⟨_, rfl, ?_⟩
  rcases (by omega : k = 0 ∨ k = 1 ∨ k = 2 ∨ k = 3 ∨ k = 4) with rfl | rfl | rfl | rfl | rfl
  all_goals
    simp only [Nat.mul_zero, Nat.reduceMul, Nat.reduceAdd, Int.reducePow, Int.pow_zero]
    refine ⟨by omega, by omega, fun y hy => ?_⟩
    omega
theorem pow_le5 (k : Nat) (hk : k ≤ 5) : (2 : Int) ^ (7 * k) ≤ 34359738368 := by
  rcases (by omega : k = 0 ∨ k = 1 ∨ k = 2 ∨ k = 3 ∨ k = 4 ∨ k = 5) with rfl | rfl | rfl | rfl | rfl | rfl <;> decide
/-- the loop's relation: k pieces are read, their sum is y -/
def Got (bs : List Int) (a k : Nat) (y : Int) : Prop := y < 2 ^ (7 * k) ∧ get 5 0 0 (bs.drop a) = get (5 - k) k y (bs.drop (a + k)) ∧ a + k ≤ bs.length
theorem got_0 {bs : List Int} {a : Nat} (h : a ≤ bs.length) : Got bs a 0 0 := ⟨by decide, rfl, h⟩
theorem got_stop {bs : List Int} {a k : Nat} {y v : Int} (h : Got bs a k y) (hk : k ≤ 4) (hl : a + k < bs.length) (hv : bs[a + k]'hl = v) (h1 : v < 128) : pc bs a = (y + v % 128 * 2 ^ (7 * k), v, k + 1) := by
  unfold pc
  rw [h.2.1, List.drop_eq_getElem_cons hl, hv, show 5 - k = (4 - k) + 1 from by omega, get_stop h1]
  rfl
theorem got_more {bs : List Int} {a k : Nat} {y v p : Int} (h : Got bs a k y) (hk : k ≤ 4) (hl : a + k < bs.length) (hv : bs[a + k]'hl = v) (h1 : 128 ≤ v) (hp : v % 128 * 2 ^ (7 * k) = p) (HP : Hid (∀ y : Int, y < 2 ^ (7 * k) → y + p < 2 ^ (7 * (k + 1)))) : Got bs a (k + 1) (y + p) := by
  refine ⟨HP.out y h.1, ?_, by omega⟩
  rw [h.2.1, List.drop_eq_getElem_cons hl, hv, show 5 - k = (5 - (k + 1)) + 1 from by omega, get_more h1, hp]
  rfl
theorem got_5 {bs : List Int} {a : Nat} {y : Int} (h : Got bs a 5 y) : pc bs a = (0, 0, 0) := by
  unfold pc
  rw [h.2.1]
  rfl
theorem got_end {bs : List Int} {a k : Nat} {y : Int} (h : Got bs a k y) (hl : bs.length ≤ a + k) : pc bs a = (0, 0, 0) := by
  unfold pc
  rw [h.2.1, List.drop_of_length_le hl, get_nil]
  rfl

theorem get_bd : ∀ (f i : Nat) (s : Int) (l : List Int), i + f = 5 → 0 ≤ s → s < 2 ^ (7 * i) → (∀ x ∈ l, 0 ≤ x ∧ x ≤ 255) → ∀ r, get f i s l = some r → 0 ≤ r.1 ∧ r.1 < 2 ^ (7 * r.2.2) ∧ 0 ≤ r.2.1 ∧ r.2.1 < 128 ∧ 1 ≤ r.2.2 ∧ r.2.2 ≤ 5
  | 0, _, _, _, _, _, _, _, r, h => by simp [get] at h
  | f + 1, i, s, [], _, _, _, _, r, h => by simp [get] at h
  | f + 1, i, s, x :: l, hi, h0, h1, hx, r, h => by
    have hx0 := hx x (by simp)
    obtain ⟨p, hp, p0, _, HP⟩ := piece x i hx0.1 (by omega)
    have hy := HP.out s h1
    rw [get] at h
    split at h
    · injection h with h
      subst h
      rw [hp]
      exact ⟨by show 0 ≤ s + p; omega, hy, by show 0 ≤ x; omega, by show x < 128; omega, by show 1 ≤ i + 1; omega, by show i + 1 ≤ 5; omega⟩
    · rw [hp] at h
      exact get_bd f (i + 1) (s + p) l (by omega) (by omega) hy (fun y hy => hx y (by simp [hy])) r h
/-- what is known of what a reader of pieces hands back -/
theorem pc_bd {bs : List Int} {a : Nat} (hx : ∀ x ∈ bs, 0 ≤ x ∧ x ≤ 255) {s l : Int} {k : Nat} (h : pc bs a = (s, l, k)) : (k = 0 ∧ s = 0 ∧ l = 0) ∨ (0 ≤ s ∧ s < 2 ^ (7 * k) ∧ 0 ≤ l ∧ l < 128 ∧ 1 ≤ k ∧ k ≤ 5) := by
  unfold pc at h
  cases hg : get 5 0 0 (bs.drop a) with
  | none => rw [hg] at h; simp at h; omega
  | some r =>
    rw [hg] at h
    have := get_bd 5 0 0 (bs.drop a) (by omega) (by omega) (by decide) (fun x hx' => hx x (List.mem_of_mem_drop hx')) r hg
    simp at h
    subst h
    exact .inr this

theorem get_len : ∀ (f i : Nat) (s : Int) (l : List Int) (r : Int × Int × Nat), get f i s l = some r → r.2.2 ≤ i + l.length
  | 0, _, _, _, r, h => by simp [get] at h
  | f + 1, _, _, [], r, h => by simp [get] at h
  | f + 1, i, s, x :: l, r, h => by
    rw [get] at h
    split at h
    · injection h with h
      subst h
      simp
    · have := get_len f (i + 1) _ l r h
      simp
      omega
theorem pc_le {bs : List Int} {a : Nat} {s l : Int} {k : Nat} (h : pc bs a = (s, l, k)) (ha : a ≤ bs.length) : a + k ≤ bs.length := by
  unfold pc at h
  cases hg : get 5 0 0 (bs.drop a) with
  | none => rw [hg] at h; simp at h; omega
  | some r =>
    rw [hg] at h
    have := get_len 5 0 0 _ r hg
    simp at h this
    subst h
    simp at this
    omega
def getU (bs : List Int) (at_ : Int) : Int × Int × Bool :=
  if at_ < 0 ∨ (bs.length : Int) ≤ at_ then (0, 0, false)
  else if (pc bs at_.toNat).2.2 = 0 ∨ (pc bs at_.toNat).2.2 = 5 ∧ 15 < (pc bs at_.toNat).2.1 then (0, 0, false)
  else ((pc bs at_.toNat).1, at_ + (pc bs at_.toNat).2.2, true)
def getS (bs : List Int) (at_ : Int) : Int × Int × Bool :=
  if at_ < 0 ∨ (bs.length : Int) ≤ at_ then (0, 0, false)
  else if (pc bs at_.toNat).2.2 = 0 ∨ (pc bs at_.toNat).2.2 = 5 ∧ 8 ≤ (pc bs at_.toNat).2.1 ∧ (pc bs at_.toNat).2.1 ≤ 119 then (0, 0, false)
  else (if 64 ≤ (pc bs at_.toNat).2.1 then (pc bs at_.toNat).1 - 2 ^ (7 * (pc bs at_.toNat).2.2) else (pc bs at_.toNat).1, at_ + (pc bs at_.toNat).2.2, true)
section
variable {bs : List Int} {at_ : Int} {a k : Nat} {s l : Int}
/-- what is known of what GetU hands back with true -/
theorem getU_true (hx : ∀ x ∈ bs, 0 ≤ x ∧ x ≤ 255) {p q : Int} (h : getU bs at_ = (p, q, true)) : 0 ≤ p ∧ p < 34359738368 ∧ 0 ≤ at_ ∧ at_ < q ∧ q ≤ bs.length ∧ q ≤ at_ + 5 := by
  unfold getU at h
  split at h
  · simp at h
  · rename_i h1
    obtain ⟨s', l', k', hp⟩ : ∃ s l k, pc bs at_.toNat = (s, l, k) := ⟨_, _, _, rfl⟩
    have hb := pc_bd hx hp
    have hl := pc_le hp (by omega)
    rw [hp] at h
    split at h
    · simp at h
    · rename_i h2
      simp only [Prod.mk.injEq, and_true] at h
      simp only at h2
      have := pow_le5 k' (by omega)
      omega
theorem getU_false {p q : Int} (h : getU bs at_ = (p, q, false)) : p = 0 ∧ q = 0 := by
  unfold getU at h
  split at h
  · simp at h; omega
  · split at h
    · simp at h; omega
    · simp at h
theorem getU_out (h : at_ < 0 ∨ (bs.length : Int) ≤ at_) : getU bs at_ = (0, 0, false) := by unfold getU; rw [if_pos h]
theorem getS_out (h : at_ < 0 ∨ (bs.length : Int) ≤ at_) : getS bs at_ = (0, 0, false) := by unfold getS; rw [if_pos h]
theorem getU_bad (ha : a < bs.length) (hp : pc bs a = (s, l, k)) (h : k = 0 ∨ k = 5 ∧ 15 < l) : getU bs a = (0, 0, false) := by
  unfold getU
  rw [if_neg (by omega), Int.toNat_natCast, hp, if_pos h]
theorem getU_ok (ha : a < bs.length) (hp : pc bs a = (s, l, k)) (h : ¬ (k = 0 ∨ k = 5 ∧ 15 < l)) : getU bs a = (s, (a : Int) + k, true) := by
  unfold getU
  rw [if_neg (by omega), Int.toNat_natCast, hp, if_neg h]
theorem getS_bad (ha : a < bs.length) (hp : pc bs a = (s, l, k)) (h : k = 0 ∨ k = 5 ∧ 8 ≤ l ∧ l ≤ 119) : getS bs a = (0, 0, false) := by
  unfold getS
  rw [if_neg (by omega), Int.toNat_natCast, hp, if_pos h]
theorem getS_ok (ha : a < bs.length) (hp : pc bs a = (s, l, k)) (h : ¬ (k = 0 ∨ k = 5 ∧ 8 ≤ l ∧ l ≤ 119)) : getS bs a = (if 64 ≤ l then s - 2 ^ (7 * k) else s, (a : Int) + k, true) := by
  unfold getS
  rw [if_neg (by omega), Int.toNat_natCast, hp, if_neg h]
end

end Go.Proofs.YtiinkfejdnfonaaGreatDoor.Leb
