/- What Pop, Clz and Ctz compute, in the program and in the reference: a contract each. -/
import Derived.Test.YticikmjelagafaaDoorNumC
import Derived.Test.YticikmjelagafaaDoorPop
import Derived.Test.YticikmjelagafaaDoorShelf
import Derived.Deep.QuietTactic
import Derived.BigQuiet
namespace Go.Proofs.YticikmjelagafaaDoor.PopC
open Go.RowKit Go.Proofs.YticikmjelagafaaDoor.Num Go.Proofs.YticikmjelagafaaDoor.NumC Go.Proofs.YticikmjelagafaaDoor.Bit Go.Proofs.YticikmjelagafaaDoor.Pop

theorem ones32 (x : Nat) (w : World) (hx : x < 4294967296) : Calls Tryd.prog 41 #[.int .u32 x] w fun e w' => e = .returned (.int .i64 (Lib.popAux 32 x : Nat)) ∧ ∃ n, w' = w.drewN n := by
  have h0 : (0 : Int) ≤ (x : Int) := by omega
  have h1 : (x : Int) ≤ 4294967295 := by omega
  have HS := hide (pop_sum x hx)
  obtain ⟨y, hy⟩ : ∃ y : Int, (x : Int) = y := ⟨_, rfl⟩
  rw [hy] at h0 h1 HS ⊢
  clear hy
  have m1 := and255 (y / 65536) (by omega) (by omega)
  have m2 := and255 (y / 256) (by omega) (by omega)
  have m3 := and255 y (by omega) (by omega)
  have a1 : 0 ≤ y / 16777216 := by omega
  have b1 : y / 16777216 ≤ 255 := by omega
  have a2 : 0 ≤ y / 65536 % 256 := by omega
  have b2 : y / 65536 % 256 ≤ 255 := by omega
  have a3 : 0 ≤ y / 256 % 256 := by omega
  have b3 : y / 256 % 256 ≤ 255 := by omega
  have a4 : 0 ≤ y % 256 := by omega
  have b4 : y % 256 ≤ 255 := by omega
  have p1 := (pop8_of _ a1 b1).2
  have p2 := (pop8_of _ a2 b2).2
  have p3 := (pop8_of _ a3 b3).2
  have p4 := (pop8_of _ a4 b4).2
  go_enter Tryd.func41, Tryd.ntmps41
  go_wp2_with fail
  go_quiet (fail)
  go_wp2
  go_ret
  refine ⟨ret_int HS.out, ?_⟩
  exact ⟨_, rfl⟩
theorem iPop (n : Int) (w : World) : Calls Tryd.prog 19 #[.int .i64 n] w fun e w' => e = .returned (.int .i64 (Lib.popAux 32 (pl n) : Nat)) ∧ ∃ n, w' = w.drewN n := by
  have H := hide (pl_cast n)
  have hx := hide (pl_lt n)
  go_enter Tryd.func19, Tryd.ntmps19
  go_wp2_with fail
  rw [← H.out]
  refine (ones32 _ _ hx.out).mono ?_
  rintro e w' ⟨rfl, m, rfl⟩
  go_wp2_with fail
  go_ret
  refine ⟨rfl, ?_⟩
  exact ⟨_, rfl⟩
theorem sPop (n : Int) (w : World) : Calls Tryd.prog 20 #[.int .i64 n] w fun e w' => e = .returned (.int .i64 (Lib.popAux 32 (pl n) : Nat)) ∧ w = w' := by
  go_enter Tryd.func20, Tryd.ntmps20
  go_wp2_with fail
  go_loopw [3, 4] (fun s i wr => ∃ k : Nat, k ≤ 32 ∧ i = .int .i64 k ∧ s = .int .i64 (Lib.popAux k (pl n) : Nat) ∧ w = wr) (fun _ i _ => 32 - (intOf i).toNat)
  case atStart => exact ⟨0, by omega, rfl, rfl, rfl⟩
  case round =>
    obtain ⟨k, hk, rfl, rfl, rfl⟩ := hrel
    have hp := popAux_le k (pl n)
    by_cases h : k < 32
    · have ha := and1 n k
      have hb : pl n / 2 ^ k % 2 ≤ 1 := by omega
      have HS := hide (popAux_succ k (pl n))
      go_wp2_with (go_at_call 42; refine (sPlain _ _).mono ?_; rintro e w' ⟨rfl, rfl⟩)
      go_roundw
      case rel => exact ⟨k + 1, by omega, by go_num, by rw [HS.out]; go_num, trivial⟩
      case measure => simp [intOf]; omega
    · obtain rfl : k = 32 := by omega
      go_wp2_with fail
      go_ret
      exact ⟨rfl, rfl⟩
theorem iClz (n : Int) (w : World) : Calls Tryd.prog 21 #[.int .i64 n] w fun e w' => e = .returned (.int .i64 (32 - (Lib.bitLen (pl n) : Int))) ∧ w = w' := by
  have hb := mod_bd n
  go_enter Tryd.func21, Tryd.ntmps21
  go_wp2_with fail
  refine (Tryd.bits_LeadingZeros32 _ _ hb.1 hb.2).mono ?_
  rintro e w' ⟨rfl, rfl⟩
  go_wp2_with fail
  go_ret
  exact ⟨rfl, rfl⟩
end Go.Proofs.YticikmjelagafaaDoor.PopC
