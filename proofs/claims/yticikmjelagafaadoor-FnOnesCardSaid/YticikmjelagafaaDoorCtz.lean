/- What Ctz computes, in the program and in the reference, where the library's table holds what it holds: a contract each. -/
import Derived.Test.YticikmjelagafaaDoorNumC
import Derived.Test.YticikmjelagafaaDoorPop
import Derived.Lib.TrailingZeros
import Derived.Lib.LaidTab
import Derived.Shelf.Spec.TrailingZeros
namespace Go.Proofs.YticikmjelagafaaDoor.Ctz
open Go.RowKit Go.Proofs.YticikmjelagafaaDoor.Num Go.Proofs.YticikmjelagafaaDoor.NumC Go.Proofs.YticikmjelagafaaDoor.Bit Go.Proofs.YticikmjelagafaaDoor.Pop

/-- x holds 2^k and an odd number: k is what ctz counts -/
theorem pow_odd_inj : ∀ (i c m q : Nat), 2 ^ i * (2 * q + 1) = 2 ^ c * (2 * m + 1) → c = i
  | 0, 0, _, _, _ => rfl
  | 0, c + 1, m, q, h => by
    rw [Nat.pow_succ, Nat.mul_comm (2 ^ c) 2, Nat.mul_assoc] at h
    simp at h
    omega
  | i + 1, 0, m, q, h => by
    rw [Nat.pow_succ, Nat.mul_comm (2 ^ i) 2, Nat.mul_assoc] at h
    simp at h
    omega
  | i + 1, c + 1, m, q, h => by
    rw [Nat.pow_succ, Nat.pow_succ, Nat.mul_comm (2 ^ i) 2, Nat.mul_comm (2 ^ c) 2, Nat.mul_assoc, Nat.mul_assoc] at h
    have := pow_odd_inj i c m q (Nat.eq_of_mul_eq_mul_left (by decide) h)
    omega
theorem ctz_at {x i : Nat} (hx : x < 4294967296) (h0 : x % 2 ^ i = 0) (h1 : x / 2 ^ i % 2 = 1) : Lib.ctz 32 x = i := by
  have hx0 : x ≠ 0 := by rintro rfl; simp at h1
  obtain ⟨m, hm, _⟩ := Lib.ctzFrom_spec 32 x (by omega) hx
  have e : Lib.ctz 32 x = Lib.ctzFrom 32 x := by simp [Lib.ctz, hx0]
  rw [e]
  obtain ⟨q, hq⟩ : ∃ q, x / 2 ^ i = 2 * q + 1 := ⟨x / 2 ^ i / 2, by omega⟩
  have hd := Nat.div_add_mod x (2 ^ i)
  rw [h0, hq] at hd
  exact pow_odd_inj i _ m q (by rw [← hm]; omega)
theorem mod_succ {x i : Nat} (h0 : x % 2 ^ i = 0) (h1 : ¬ x / 2 ^ i % 2 = 1) : x % 2 ^ (i + 1) = 0 := by
  rw [Nat.pow_succ, Nat.mod_mul, h0]
  have : x / 2 ^ i % 2 = 0 := by generalize x / 2 ^ i = q at *; omega
  simp [this]

theorem tz_core (x k idx : Nat) (w : World) (hx0 : ((x : Int) == 0) = false)
    (key : bits BinOp.and IntKind.u32 (x : Int) (-(x : Int) % 4294967296) * 125613361 % 4294967296 / 134217728 = (idx : Int))
    (hi : idx < 32) (hk : k < 32) (hcell : w.cell? ⟨0, idx, none⟩ = some (.int .u8 k)) :
    Calls Tryd.prog 44 #[.int .u32 x] w fun e w' => e = .returned (.int .i64 k) ∧ w = w' := by
  go_enter Tryd.func44, Tryd.ntmps44
  go_wp2_with (simp only [key])
  go_ret
  exact ⟨rfl, rfl⟩
theorem tz_zero (w : World) : Calls Tryd.prog 44 #[.int .u32 0] w fun e w' => e = .returned (.int .i64 32) ∧ w = w' := by
  go_enter Tryd.func44, Tryd.ntmps44
  go_wp2_with fail
  go_ret
  exact ⟨rfl, rfl⟩
theorem tz (x : Nat) (hx : x < 4294967296) (w : World) (hT : Go.Proofs.TabAt 0 Lib.deBruijn32tab w) :
    Calls Tryd.prog 44 #[.int .u32 x] w fun e w' => e = .returned (.int .i64 (Lib.ctz 32 x : Nat)) ∧ w = w' := by
  by_cases hx0 : x = 0
  · subst hx0
    exact tz_zero w
  · obtain ⟨hlow, hk⟩ := Lib.lowest_bit 32 x hx0 hx
    obtain ⟨hi, htab⟩ := Lib.deBruijn32_at _ hk
    have hcell := hT _ hi
    rw [htab] at hcell
    exact tz_core x _ _ w (by simp; omega) (Go.Proofs.tz32_key x _ hx hx0 hlow) hi hk hcell
theorem iCtz (n : Int) (w : World) (hT : Go.Proofs.TabAt 0 Lib.deBruijn32tab w) : Calls Tryd.prog 22 #[.int .i64 n] w fun e w' => e = .returned (.int .i64 (Lib.ctz 32 (pl n) : Nat)) ∧ w = w' := by
  have H := hide (pl_cast n)
  have hx := hide (pl_lt n)
  have HT := hide hT
  clear hT
  go_enter Tryd.func22, Tryd.ntmps22
  go_wp2_with fail
  rw [← H.out]
  refine (tz _ hx.out _ HT.out).mono ?_
  rintro e w' ⟨rfl, rfl⟩
  go_wp2_with fail
  go_ret
  exact ⟨rfl, rfl⟩
end Go.Proofs.YticikmjelagafaaDoor.Ctz
