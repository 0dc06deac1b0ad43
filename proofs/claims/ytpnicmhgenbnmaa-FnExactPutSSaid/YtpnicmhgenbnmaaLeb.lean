/- Plain laws on numbers in pieces of seven bits: no program in sight. -/
import Derived.WalkKit
import Derived.Test.YtpnicmhgenbnmaaNum
namespace Go.Proofs.Ytpnicmhgenbnmaa.Leb
open Go.RowKit Go.Proofs.Ytpnicmhgenbnmaa.Num

/-- the pieces of a plain number, with fuel -/
def putU : Nat → Int → List Int
  | 0, _ => []
  | f + 1, n => if n < 128 then [n] else (n % 128 + 128) :: putU f (n / 128)
/-- the pieces of a number with a sign, with fuel -/
def putS : Nat → Int → List Int
  | 0, _ => []
  | f + 1, n => if -64 ≤ n ∧ n ≤ 63 then [n % 128] else (n % 128 + 128) :: putS f (n / 128)

theorem putU_stop {f : Nat} {n : Int} (h : n < 128) : putU (f + 1) n = [n] := by rw [putU, if_pos h]
theorem putU_more {f : Nat} {n : Int} (h : 128 ≤ n) : putU (f + 1) n = (n % 128 + 128) :: putU f (n / 128) := by rw [putU, if_neg (by omega)]
theorem putS_stop {f : Nat} {n : Int} (h : -64 ≤ n) (h' : n ≤ 63) : putS (f + 1) n = [n % 128] := by rw [putS, if_pos ⟨h, h'⟩]
theorem putS_more {f : Nat} {n : Int} (h : n < -64 ∨ 63 < n) : putS (f + 1) n = (n % 128 + 128) :: putS f (n / 128) := by rw [putS, if_neg (by omega)]

theorem putU_le : ∀ (f : Nat) (n : Int), (putU f n).length ≤ f
  | 0, _ => by simp [putU]
  | f + 1, n => by
    rw [putU]
    split
    · simp
    · have := putU_le f (n / 128); simp; omega
theorem putS_le : ∀ (f : Nat) (n : Int), (putS f n).length ≤ f
  | 0, _ => by simp [putS]
  | f + 1, n => by
    rw [putS]
    split
    · simp
    · have := putS_le f (n / 128); simp; omega
theorem putU_byte : ∀ (f : Nat) (n : Int), 0 ≤ n → ∀ x ∈ putU f n, 0 ≤ x ∧ x ≤ 255
  | 0, _, _ => by simp [putU]
  | f + 1, n, h0 => by
    rw [putU]
    split
    · simp; omega
    · have := putU_byte f (n / 128) (by omega)
      intro x hx
      rcases List.mem_cons.1 hx with rfl | hx
      · omega
      · exact this x hx
theorem putS_byte : ∀ (f : Nat) (n : Int), ∀ x ∈ putS f n, 0 ≤ x ∧ x ≤ 255
  | 0, _ => by simp [putS]
  | f + 1, n => by
    rw [putS]
    split
    · simp; omega
    · have := putS_byte f (n / 128)
      intro x hx
      rcases List.mem_cons.1 hx with rfl | hx
      · omega
      · exact this x hx

/-- what f + 1 pieces hold: below lim f -/
def lim : Nat → Int
  | 0 => 128
  | f + 1 => 128 * lim f
theorem lim_div {f : Nat} {x : Int} (h : x < lim (f + 1)) : x / 128 < lim f := by
  have : lim (f + 1) = 128 * lim f := rfl
  generalize lim f = y at *
  omega
theorem and127 (x : Int) : bits .and .i64 x 127 = x % 128 := by
  show IntKind.i64.wrap ((BitVec.ofInt 64 x &&& BitVec.ofInt 64 127).toNat : Int) = _
  have h2 : (BitVec.ofInt 64 127).toNat = 2 ^ 7 - 1 := by decide
  rw [BitVec.toNat_and, h2, Nat.and_two_pow_sub_one_eq_mod, BitVec.toNat_ofInt, IntKind.wrap_i64]
  omega
def limS : Nat → Int
  | 0 => 64
  | f + 1 => 128 * limS f
theorem limS_div {f : Nat} {x : Int} (h : x < limS (f + 1)) : x / 128 < limS f := by
  have : limS (f + 1) = 128 * limS f := rfl
  generalize limS f = y at *
  omega
theorem limS_div' {f : Nat} {x : Int} (h : -limS (f + 1) ≤ x) : -limS f ≤ x / 128 := by
  have : limS (f + 1) = 128 * limS f := rfl
  generalize limS f = y at *
  omega

/-- a plain number's pieces read from the front: the sum, the last byte, how many; 'i' pieces are behind -/
def get : Nat → Nat → Int → List Int → Option (Int × Int × Nat)
  | 0, _, _, _ => none
  | _ + 1, _, _, [] => none
  | f + 1, i, s, x :: r => if x < 128 then some (s + x % 128 * 2 ^ (7 * i), x, i + 1) else get f (i + 1) (s + x % 128 * 2 ^ (7 * i)) r

def getU (bs : List Int) (at_ : Int) : Int × Int × Bool :=
  if at_ < 0 ∨ (bs.length : Int) ≤ at_ then (0, 0, false) else
  match get 5 0 0 (bs.drop at_.toNat) with
  | none => (0, 0, false)
  | some (s, last, k) => if k = 5 ∧ 15 < last then (0, 0, false) else (s, at_ + k, true)
def getS (bs : List Int) (at_ : Int) : Int × Int × Bool :=
  if at_ < 0 ∨ (bs.length : Int) ≤ at_ then (0, 0, false) else
  match get 5 0 0 (bs.drop at_.toNat) with
  | none => (0, 0, false)
  | some (s, last, k) => if k = 5 ∧ 8 ≤ last ∧ last ≤ 119 then (0, 0, false) else (if 64 ≤ last then s - 2 ^ (7 * k) else s, at_ + k, true)

end Go.Proofs.Ytpnicmhgenbnmaa.Leb
