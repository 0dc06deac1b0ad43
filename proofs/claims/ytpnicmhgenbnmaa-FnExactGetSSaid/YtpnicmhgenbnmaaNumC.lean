/- What the program's and the reference's functions on numbers of 32 bits compute: a contract each. -/
import Derived.Test.YtpnicmhgenbnmaaChecked
import Derived.WalkKit
import Derived.Test.YtpnicmhgenbnmaaNum
namespace Go.Proofs.Ytpnicmhgenbnmaa.NumC
open Go.RowKit Go.Proofs.Ytpnicmhgenbnmaa.Num

theorem ret_int {k : IntKind} {a b : Int} (h : a = b) : Ending.returned (.int k a) = .returned (.int k b) := by rw [h]
theorem ret_two {k : IntKind} {a b c d : Int} (h : a = b) (h' : c = d) : Ending.returned (.tuple #[.int k a, .int k c]) = .returned (.tuple #[.int k b, .int k d]) := by rw [h, h']

theorem iPlain (n : Int) (w : World) : Calls Try.prog 32 #[.int .i64 n] w fun e w' => e = .returned (.int .i64 (n % 4294967296)) ∧ w = w' := by
  go_enter Try.func32, Try.ntmps32
  go_wp2
  go_ret
  exact ⟨ret_int (rfl), rfl⟩
theorem sPlain (n : Int) (w : World) : Calls Try.prog 53 #[.int .i64 n] w fun e w' => e = .returned (.int .i64 (n % 4294967296)) ∧ w = w' := by
  go_enter Try.func53, Try.ntmps53
  go_wp2
  go_ret
  exact ⟨ret_int (and_mask n), rfl⟩
theorem iWrap (n : Int) (w : World) : Calls Try.prog 30 #[.int .i64 n] w fun e w' => e = .returned (.int .i64 (wrap32 n)) ∧ w = w' := by
  go_enter Try.func30, Try.ntmps30
  go_wp2
  go_ret
  have := w32_bd n
  exact ⟨ret_int (IntWalk.wrap64_in _ (by omega)), rfl⟩
theorem sWrap (n : Int) (w : World) : Calls Try.prog 52 #[.int .i64 n] w fun e w' => e = .returned (.int .i64 (wrap32 n)) ∧ w = w' := by
  have hb := mod_bd n
  by_cases h : 2147483647 < n % 4294967296
  · have hw := w32_hi h
    go_enter Try.func52, Try.ntmps52
    go_wp2_with (go_at_call 53; refine (sPlain _ _).mono ?_; rintro e w' ⟨rfl, rfl⟩)
    go_ret
    exact ⟨rfl, rfl⟩
  · have hw := w32_lo (by omega : n % 4294967296 ≤ 2147483647)
    go_enter Try.func52, Try.ntmps52
    go_wp2_with (go_at_call 53; refine (sPlain _ _).mono ?_; rintro e w' ⟨rfl, rfl⟩)
    go_ret
    exact ⟨rfl, rfl⟩
theorem iAdd (a b : Int) (w : World) : Calls Try.prog 27 #[.int .i64 a, .int .i64 b] w fun e w' => e = .returned (.int .i64 (wrap32 (wrap32 a + wrap32 b))) ∧ w = w' := by
  have ha := w32_bd a
  have hb := w32_bd b
  go_enter Try.func27, Try.ntmps27
  go_wp2_with (go_at_call 30; refine (iWrap _ _).mono ?_; rintro e w' ⟨rfl, rfl⟩)
  go_ret
  exact ⟨rfl, rfl⟩
theorem sAdd (a b : Int) (w : World) : Calls Try.prog 28 #[.int .i64 a, .int .i64 b] w fun e w' => e = .returned (.int .i64 (wrap32 (wrap32 a + wrap32 b))) ∧ w = w' := by
  have ha := w32_bd a
  have hb := w32_bd b
  go_enter Try.func28, Try.ntmps28
  go_wp2_with (go_at_call 52; refine (sWrap _ _).mono ?_; rintro e w' ⟨rfl, rfl⟩)
  go_ret
  exact ⟨rfl, rfl⟩
theorem iSub (a b : Int) (w : World) : Calls Try.prog 29 #[.int .i64 a, .int .i64 b] w fun e w' => e = .returned (.int .i64 (wrap32 (wrap32 a - wrap32 b))) ∧ w = w' := by
  have ha := w32_bd a
  have hb := w32_bd b
  go_enter Try.func29, Try.ntmps29
  go_wp2_with (go_at_call 30; refine (iWrap _ _).mono ?_; rintro e w' ⟨rfl, rfl⟩)
  go_ret
  exact ⟨rfl, rfl⟩
theorem iMul (a b : Int) (w : World) : Calls Try.prog 31 #[.int .i64 a, .int .i64 b] w fun e w' => e = .returned (.int .i64 (wrap32 (wrap32 a * wrap32 b))) ∧ w = w' := by
  have ha := w32_bd a
  have hb := w32_bd b
  have hm := mul_bd a b
  go_enter Try.func31, Try.ntmps31
  go_wp2_with (go_at_call 30; refine (iWrap _ _).mono ?_; rintro e w' ⟨rfl, rfl⟩)
  go_ret
  exact ⟨rfl, rfl⟩
theorem iDivU_no (a b : Int) (w : World) (h : b % 4294967296 = 0) : Calls Try.prog 36 #[.int .i64 a, .int .i64 b] w fun e w' => e = .returned (.tuple #[.int .i64 0, .int .i64 2]) ∧ w = w' := by
  have hz : (b % 4294967296 == 0) = true := by simp [h]
  clear h
  go_enter Try.func36, Try.ntmps36
  go_wp2_with (first | (go_at_call 32; refine (iPlain _ _).mono ?_; rintro e w' ⟨rfl, rfl⟩) | (go_at_call 30; refine (iWrap _ _).mono ?_; rintro e w' ⟨rfl, rfl⟩))
  go_ret2
  exact ⟨rfl, rfl⟩
theorem iDivU (a b : Int) (w : World) (h : b % 4294967296 ≠ 0) : Calls Try.prog 36 #[.int .i64 a, .int .i64 b] w fun e w' => e = .returned (.tuple #[.int .i64 (wrap32 (a % 4294967296 / (b % 4294967296))), .int .i64 0]) ∧ w = w' := by
  have hz : (b % 4294967296 == 0) = false := by simp [h]
  have ha := mod_bd a
  have hb : 1 ≤ b % 4294967296 ∧ b % 4294967296 ≤ 4294967295 := by have := mod_bd b; omega
  clear h
  go_enter Try.func36, Try.ntmps36
  go_wp2_with (first | (go_at_call 32; refine (iPlain _ _).mono ?_; rintro e w' ⟨rfl, rfl⟩) | (go_at_call 30; refine (iWrap _ _).mono ?_; rintro e w' ⟨rfl, rfl⟩))
  go_ret2
  exact ⟨rfl, rfl⟩
theorem iRemU_no (a b : Int) (w : World) (h : b % 4294967296 = 0) : Calls Try.prog 37 #[.int .i64 a, .int .i64 b] w fun e w' => e = .returned (.tuple #[.int .i64 0, .int .i64 2]) ∧ w = w' := by
  have hz : (b % 4294967296 == 0) = true := by simp [h]
  clear h
  go_enter Try.func37, Try.ntmps37
  go_wp2_with (first | (go_at_call 32; refine (iPlain _ _).mono ?_; rintro e w' ⟨rfl, rfl⟩) | (go_at_call 30; refine (iWrap _ _).mono ?_; rintro e w' ⟨rfl, rfl⟩))
  go_ret2
  exact ⟨rfl, rfl⟩
theorem iRemU (a b : Int) (w : World) (h : b % 4294967296 ≠ 0) : Calls Try.prog 37 #[.int .i64 a, .int .i64 b] w fun e w' => e = .returned (.tuple #[.int .i64 (wrap32 (a % 4294967296 % (b % 4294967296))), .int .i64 0]) ∧ w = w' := by
  have hz : (b % 4294967296 == 0) = false := by simp [h]
  have ha := mod_bd a
  have hb : 1 ≤ b % 4294967296 ∧ b % 4294967296 ≤ 4294967295 := by have := mod_bd b; omega
  clear h
  go_enter Try.func37, Try.ntmps37
  go_wp2_with (first | (go_at_call 32; refine (iPlain _ _).mono ?_; rintro e w' ⟨rfl, rfl⟩) | (go_at_call 30; refine (iWrap _ _).mono ?_; rintro e w' ⟨rfl, rfl⟩))
  go_ret2
  exact ⟨rfl, rfl⟩
theorem iRemS_no (a b : Int) (w : World) (h : wrap32 b = 0) : Calls Try.prog 34 #[.int .i64 a, .int .i64 b] w fun e w' => e = .returned (.tuple #[.int .i64 0, .int .i64 2]) ∧ w = w' := by
  have hz : (wrap32 b == 0) = true := by simp [h]
  clear h
  go_enter Try.func34, Try.ntmps34
  go_wp2_with (go_at_call 30; refine (iWrap _ _).mono ?_; rintro e w' ⟨rfl, rfl⟩)
  go_ret2
  exact ⟨rfl, rfl⟩
theorem iRemS (a b : Int) (w : World) (h : wrap32 b ≠ 0) : Calls Try.prog 34 #[.int .i64 a, .int .i64 b] w fun e w' => e = .returned (.tuple #[.int .i64 ((wrap32 a).tmod (wrap32 b)), .int .i64 0]) ∧ w = w' := by
  have hz : (wrap32 b == 0) = false := by simp [h]
  have ha := w32_bd a
  have hb := w32_bd b
  have hr := tmod_bd (wrap32 a) (wrap32 b) ha.1 ha.2
  go_enter Try.func34, Try.ntmps34
  go_wp2_with (go_at_call 30; refine (iWrap _ _).mono ?_; rintro e w' ⟨rfl, rfl⟩)
  go_ret2
  exact ⟨rfl, rfl⟩
theorem sRemS_no (a b : Int) (w : World) (h : wrap32 b = 0) : Calls Try.prog 35 #[.int .i64 a, .int .i64 b] w fun e w' => e = .returned (.tuple #[.int .i64 0, .int .i64 2]) ∧ w = w' := by
  have hz : (wrap32 b == 0) = true := by simp [h]
  clear h
  go_enter Try.func35, Try.ntmps35
  go_wp2_with (go_at_call 52; refine (sWrap _ _).mono ?_; rintro e w' ⟨rfl, rfl⟩)
  go_ret2
  exact ⟨rfl, rfl⟩
theorem sRemS (a b : Int) (w : World) (h : wrap32 b ≠ 0) : Calls Try.prog 35 #[.int .i64 a, .int .i64 b] w fun e w' => e = .returned (.tuple #[.int .i64 ((wrap32 a).tmod (wrap32 b)), .int .i64 0]) ∧ w = w' := by
  have hz : (wrap32 b == 0) = false := by simp [h]
  have ha := w32_bd a
  have hb := w32_bd b
  have hr := tmod_bd (wrap32 a) (wrap32 b) ha.1 ha.2
  go_enter Try.func35, Try.ntmps35
  go_wp2_with (go_at_call 52; refine (sWrap _ _).mono ?_; rintro e w' ⟨rfl, rfl⟩)
  go_ret2
  exact ⟨rfl, rfl⟩
theorem iDivS_no (a b : Int) (w : World) (h : wrap32 b = 0) : Calls Try.prog 16 #[.int .i64 a, .int .i64 b] w fun e w' => e = .returned (.tuple #[.int .i64 0, .int .i64 2]) ∧ w = w' := by
  have hz : (wrap32 b == 0) = true := by simp [h]
  clear h
  go_enter Try.func16, Try.ntmps16
  go_wp2_with (go_at_call 30; refine (iWrap _ _).mono ?_; rintro e w' ⟨rfl, rfl⟩)
  go_ret2
  exact ⟨rfl, rfl⟩
theorem iDivS_over (a b : Int) (w : World) (h : wrap32 a = -2147483648) (h' : wrap32 b = -1) : Calls Try.prog 16 #[.int .i64 a, .int .i64 b] w fun e w' => e = .returned (.tuple #[.int .i64 0, .int .i64 3]) ∧ w = w' := by
  have hz : (wrap32 b == 0) = false := by simp [h']
  have hx : (wrap32 a == -2147483648) = true := by simp [h]
  have hy : (wrap32 b == -1) = true := by simp [h']
  clear h h'
  go_enter Try.func16, Try.ntmps16
  go_wp2_with (go_at_call 30; refine (iWrap _ _).mono ?_; rintro e w' ⟨rfl, rfl⟩)
  go_ret2
  exact ⟨rfl, rfl⟩
theorem iDivS (a b : Int) (w : World) (h : wrap32 b ≠ 0) (h' : wrap32 a = -2147483648 → wrap32 b ≠ -1) : Calls Try.prog 16 #[.int .i64 a, .int .i64 b] w fun e w' => e = .returned (.tuple #[.int .i64 ((wrap32 a).tdiv (wrap32 b)), .int .i64 0]) ∧ w = w' := by
  have hz : (wrap32 b == 0) = false := by simp [h]
  have ha := w32_bd a
  have hb := w32_bd b
  have hr := tdiv_bd (wrap32 a) (wrap32 b) ha.1 ha.2 h
  by_cases hx : wrap32 a = -2147483648
  · have hx' : (wrap32 a == -2147483648) = true := by simp [hx]
    have hy : (wrap32 b == -1) = false := by simp [h' hx]
    clear h' hx
    go_enter Try.func16, Try.ntmps16
    go_wp2_with (go_at_call 30; refine (iWrap _ _).mono ?_; rintro e w' ⟨rfl, rfl⟩)
    go_ret2
    exact ⟨rfl, rfl⟩
  · have hx' : (wrap32 a == -2147483648) = false := by simp [hx]
    clear h' hx
    go_enter Try.func16, Try.ntmps16
    go_wp2_with (go_at_call 30; refine (iWrap _ _).mono ?_; rintro e w' ⟨rfl, rfl⟩)
    go_ret2
    exact ⟨rfl, rfl⟩
theorem sDivS_no (a b : Int) (w : World) (h : wrap32 b = 0) : Calls Try.prog 15 #[.int .i64 a, .int .i64 b] w fun e w' => e = .returned (.tuple #[.int .i64 0, .int .i64 2]) ∧ w = w' := by
  have hz : (wrap32 b == 0) = true := by simp [h]
  clear h
  go_enter Try.func15, Try.ntmps15
  go_wp2_with (go_at_call 52; refine (sWrap _ _).mono ?_; rintro e w' ⟨rfl, rfl⟩)
  go_ret2
  exact ⟨rfl, rfl⟩
theorem sDivS_over (a b : Int) (w : World) (h : wrap32 a = -2147483648) (h' : wrap32 b = -1) : Calls Try.prog 15 #[.int .i64 a, .int .i64 b] w fun e w' => e = .returned (.tuple #[.int .i64 0, .int .i64 3]) ∧ w = w' := by
  have hz : (wrap32 b == 0) = false := by simp [h']
  have hx : (wrap32 a == -2147483648) = true := by simp [h]
  have hy : (wrap32 b == -1) = true := by simp [h']
  clear h h'
  go_enter Try.func15, Try.ntmps15
  go_wp2_with (go_at_call 52; refine (sWrap _ _).mono ?_; rintro e w' ⟨rfl, rfl⟩)
  go_ret2
  exact ⟨rfl, rfl⟩
theorem sDivS (a b : Int) (w : World) (h : wrap32 b ≠ 0) (h' : wrap32 a = -2147483648 → wrap32 b ≠ -1) : Calls Try.prog 15 #[.int .i64 a, .int .i64 b] w fun e w' => e = .returned (.tuple #[.int .i64 ((wrap32 a).tdiv (wrap32 b)), .int .i64 0]) ∧ w = w' := by
  have hz : (wrap32 b == 0) = false := by simp [h]
  have ha := w32_bd a
  have hb := w32_bd b
  have hr := tdiv_bd (wrap32 a) (wrap32 b) ha.1 ha.2 h
  by_cases hx : wrap32 a = -2147483648
  · have hx' : (wrap32 a == -2147483648) = true := by simp [hx]
    have hy : (wrap32 b == -1) = false := by simp [h' hx]
    clear h' hx
    go_enter Try.func15, Try.ntmps15
    go_wp2_with (go_at_call 52; refine (sWrap _ _).mono ?_; rintro e w' ⟨rfl, rfl⟩)
    go_ret2
    exact ⟨rfl, rfl⟩
  · have hx' : (wrap32 a == -2147483648) = false := by simp [hx]
    clear h' hx
    go_enter Try.func15, Try.ntmps15
    go_wp2_with (go_at_call 52; refine (sWrap _ _).mono ?_; rintro e w' ⟨rfl, rfl⟩)
    go_ret2
    exact ⟨rfl, rfl⟩
end Go.Proofs.Ytpnicmhgenbnmaa.NumC
