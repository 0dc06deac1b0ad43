/- The laws on sums, products, quotients, bits and comparisons of drawn numbers, walked by the contracts of what they call. -/
import Derived.Test.YtpnicmhgenbnmaaDrawC
import Derived.Test.YtpnicmhgenbnmaaBitC
import Derived.Test.YtpnicmhgenbnmaaRing
import Derived.Test.YtpnicmhgenbnmaaOpen
namespace Go.Proofs.Ytpnicmhgenbnmaa
open Go.RowKit Go.Proofs.Ytpnicmhgenbnmaa.Num Go.Proofs.Ytpnicmhgenbnmaa.NumC Go.Proofs.Ytpnicmhgenbnmaa.BitC Go.Proofs.Ytpnicmhgenbnmaa.Bit Go.Proofs.Ytpnicmhgenbnmaa.Mem Go.Proofs.Ytpnicmhgenbnmaa.Draw Go.Proofs.Ytpnicmhgenbnmaa.Ring
set_option linter.unusedVariables false

theorem tri3 (a b : Int) : (cmpV 3 a b = true ∧ cmpV 3 b a = false ∧ cmpV 1 a b = false ∧ cmpV 5 b a = true ∧ cmpV 9 a b = false) ∨ (cmpV 3 a b = false ∧ cmpV 3 b a = true ∧ cmpV 1 a b = false ∧ cmpV 5 b a = false ∧ cmpV 9 a b = true) ∨
    (cmpV 3 a b = false ∧ cmpV 3 b a = false ∧ cmpV 1 a b = true ∧ cmpV 5 b a = false ∧ cmpV 9 a b = true) := by
  rw [← K3, ← K3, ← K1, ← K5, ← K9]
  generalize wrap32 a = x
  generalize wrap32 b = y
  simp only [decide_eq_true_eq, decide_eq_false_iff_not]
  omega
theorem tri4 (a b : Int) : (cmpV 4 a b = true ∧ cmpV 4 b a = false ∧ cmpV 1 a b = false ∧ cmpV 6 b a = true ∧ cmpV 10 a b = false) ∨ (cmpV 4 a b = false ∧ cmpV 4 b a = true ∧ cmpV 1 a b = false ∧ cmpV 6 b a = false ∧ cmpV 10 a b = true) ∨
    (cmpV 4 a b = false ∧ cmpV 4 b a = false ∧ cmpV 1 a b = true ∧ cmpV 6 b a = false ∧ cmpV 10 a b = true) := by
  rw [← K4, ← K4, ← K1, ← K6, ← K10]
  have h : wrap32 a = wrap32 b ↔ a % 4294967296 = b % 4294967296 := by unfold wrap32; omega
  simp only [decide_eq_true_eq, decide_eq_false_iff_not]
  rw [h]
  generalize a % 4294967296 = x
  generalize b % 4294967296 = y
  omega
theorem two_not (a b : Int) : (cmpV 1 a b = true ∧ cmpV 2 a b = false) ∨ (cmpV 1 a b = false ∧ cmpV 2 a b = true) := by
  rw [← K1, ← K2]
  by_cases h : wrap32 a = wrap32 b <;> simp [h]
theorem fnRing_long (A : Option Addr) (n c : Nat) (w : World) (hn : 1048576 < n) (hm : n ≤ 9223372036854775807) : Calls Try.prog 7 #[.slice A n c] w fun e w' => e = .returned (.bool true) ∧ Below w.heap.size w w' := by
  have hn' : (1048576 : Int) < n := by omega
  clear hn
  go_enter Try.func7, Try.ntmps7
  go_wp2_with fail
  go_ret
  exact ⟨rfl, Below.refl _ _⟩
set_option maxRecDepth 100000 in
theorem fnRing_walk (A0 : Option Addr) (n0 c0 : Nat) (bs0 : List Int) (w : World) (w0 : IsNums .u8 w A0 n0 c0 bs0) : Calls Try.prog 7 #[.slice A0 n0 c0] w fun e w' => e = .returned (.bool true) ∧ Below w.heap.size w w' := by
  have hr := w0.rd
  have hx : ∀ x ∈ bs0, 0 ≤ x ∧ x ≤ 255 := fun x h => u8_of_wf (w0.wf x h)
  have hm : n0 ≤ 9223372036854775807 := by have := w0.max; have := w0.le; unfold maxLen at *; omega
  by_cases hn : 1048576 < n0
  · exact fnRing_long A0 n0 c0 w hn hm
  have hn' : (n0 : Int) ≤ 1048576 := by omega
  have HN := hide (show n0 ≤ 1048576 by omega)
  clear hn hm w0
  have HR := hide hr
  have HX := hide hx
  clear hr hx
  go_enter Try.func7, Try.ntmps7
  go_wp2_with fail
  refine (DrawAdd_c A0 n0 c0 bs0 w HR.out HN.out HX.out).mono ?_
  rintro e w1 ⟨a, b, rfl, hb1⟩
  go_wp2_with fail
  refine (DrawMul_c A0 n0 c0 bs0 w1 (HR.out.bel hb1) HN.out HX.out).mono ?_
  rintro e w2 ⟨x, y, rfl, hb2⟩
  go_wp2_with fail
  refine (iAdd _ _ _).mono ?_
  rintro e w3 ⟨rfl, rfl⟩
  go_wp2_with fail
  refine (sAdd _ _ _).mono ?_
  rintro e w3 ⟨rfl, rfl⟩
  have e1 := add_comm' a b
  have e2 := sub_back a b
  have e3 := distrib a b x
  have e4 := mul_comm' x y
  have e5 := plain_wrap (wrap32 a + wrap32 b)
  have e6 := wrap_plain (wrap32 a + wrap32 b)
  go_wp2_with (first | (go_at_call 27; refine (iAdd _ _ _).mono ?_; rintro e w' ⟨rfl, rfl⟩) | (go_at_call 29; refine (iSub _ _ _).mono ?_; rintro e w' ⟨rfl, rfl⟩) | (go_at_call 31; refine (iMul _ _ _).mono ?_; rintro e w' ⟨rfl, rfl⟩) | (go_at_call 30; refine (iWrap _ _).mono ?_; rintro e w' ⟨rfl, rfl⟩) | (go_at_call 32; refine (iPlain _ _).mono ?_; rintro e w' ⟨rfl, rfl⟩))
  go_ret
  exact ⟨rfl, hb1.trans (hb2.mono hb1.size)⟩
theorem fnDivide_long (A : Option Addr) (n c : Nat) (w : World) (hn : 1048576 < n) (hm : n ≤ 9223372036854775807) : Calls Try.prog 8 #[.slice A n c] w fun e w' => e = .returned (.bool true) ∧ Below w.heap.size w w' := by
  have hn' : (1048576 : Int) < n := by omega
  clear hn
  go_enter Try.func8, Try.ntmps8
  go_wp2_with fail
  go_ret
  exact ⟨rfl, Below.refl _ _⟩
set_option maxRecDepth 100000 in
theorem fnDivide_walk (A0 : Option Addr) (n0 c0 : Nat) (bs0 : List Int) (w : World) (w0 : IsNums .u8 w A0 n0 c0 bs0) : Calls Try.prog 8 #[.slice A0 n0 c0] w fun e w' => e = .returned (.bool true) ∧ Below w.heap.size w w' := by
  have hr := w0.rd
  have hx : ∀ x ∈ bs0, 0 ≤ x ∧ x ≤ 255 := fun x h => u8_of_wf (w0.wf x h)
  have hm : n0 ≤ 9223372036854775807 := by have := w0.max; have := w0.le; unfold maxLen at *; omega
  by_cases hn : 1048576 < n0
  · exact fnDivide_long A0 n0 c0 w hn hm
  have hn' : (n0 : Int) ≤ 1048576 := by omega
  have HN := hide (show n0 ≤ 1048576 by omega)
  clear hn hm w0
  have HR := hide hr
  have HX := hide hx
  clear hr hx
  go_enter Try.func8, Try.ntmps8
  go_wp2_with fail
  refine (DrawDivS_c A0 n0 c0 bs0 w HR.out HN.out HX.out).mono ?_
  rintro e w1 ⟨a, b, rfl, hb1⟩
  by_cases hz : wrap32 b = 0
  · have HZ := hide hz
    have HP := hide ((zero_iff b).1 hz)
    have ez : (wrap32 b == 0) = true := by rw [hz]; rfl
    clear hz
    go_wp2_with (first | (go_at_call 16; refine (iDivS_no _ _ _ HZ.out).mono ?_; rintro e w' ⟨rfl, rfl⟩) | (go_at_call 15; refine (sDivS_no _ _ _ HZ.out).mono ?_; rintro e w' ⟨rfl, rfl⟩) | (go_at_call 34; refine (iRemS_no _ _ _ HZ.out).mono ?_; rintro e w' ⟨rfl, rfl⟩) | (go_at_call 35; refine (sRemS_no _ _ _ HZ.out).mono ?_; rintro e w' ⟨rfl, rfl⟩) | (go_at_call 36; refine (iDivU_no _ _ _ HP.out).mono ?_; rintro e w' ⟨rfl, rfl⟩) | (go_at_call 37; refine (iRemU_no _ _ _ HP.out).mono ?_; rintro e w' ⟨rfl, rfl⟩) | (go_at_call 30; refine (iWrap _ _).mono ?_; rintro e w' ⟨rfl, rfl⟩))
    go_ret
    exact ⟨rfl, hb1⟩
  have hp : b % 4294967296 ≠ 0 := fun h => hz ((zero_iff b).2 h)
  have HZ := hide hz
  have HP := hide hp
  have ez : (wrap32 b == 0) = false := by rw [beq_eq_false_iff_ne]; exact hz
  have eu := againU a b
  have el := rest_lt a b hp
  clear hz hp
  by_cases ho : wrap32 a = -2147483648 ∧ wrap32 b = -1
  · obtain ⟨h3, h4⟩ := ho
    have H3 := hide h3
    have H4 := hide h4
    have er : (wrap32 a).tmod (wrap32 b) = 0 := by rw [h3, h4]; simp
    clear h3 h4
    go_wp2_with (first | (go_at_call 16; refine (iDivS_over _ _ _ H3.out H4.out).mono ?_; rintro e w' ⟨rfl, rfl⟩) | (go_at_call 15; refine (sDivS_over _ _ _ H3.out H4.out).mono ?_; rintro e w' ⟨rfl, rfl⟩) | (go_at_call 34; refine (iRemS _ _ _ HZ.out).mono ?_; rintro e w' ⟨rfl, rfl⟩) | (go_at_call 35; refine (sRemS _ _ _ HZ.out).mono ?_; rintro e w' ⟨rfl, rfl⟩) | (go_at_call 36; refine (iDivU _ _ _ HP.out).mono ?_; rintro e w' ⟨rfl, rfl⟩) | (go_at_call 37; refine (iRemU _ _ _ HP.out).mono ?_; rintro e w' ⟨rfl, rfl⟩) | (go_at_call 27; refine (iAdd _ _ _).mono ?_; rintro e w' ⟨rfl, rfl⟩) | (go_at_call 31; refine (iMul _ _ _).mono ?_; rintro e w' ⟨rfl, rfl⟩) | (go_at_call 30; refine (iWrap _ _).mono ?_; rintro e w' ⟨rfl, rfl⟩) | (go_at_call 32; refine (iPlain _ _).mono ?_; rintro e w' ⟨rfl, rfl⟩))
    go_ret
    exact ⟨rfl, hb1⟩
  · have HO := hide ho
    have es := againS a b
    clear ho
    go_wp2_with (first | (go_at_call 16; refine (iDivS _ _ _ HZ.out (fun x y => HO.out ⟨x, y⟩)).mono ?_; rintro e w' ⟨rfl, rfl⟩) | (go_at_call 15; refine (sDivS _ _ _ HZ.out (fun x y => HO.out ⟨x, y⟩)).mono ?_; rintro e w' ⟨rfl, rfl⟩) | (go_at_call 34; refine (iRemS _ _ _ HZ.out).mono ?_; rintro e w' ⟨rfl, rfl⟩) | (go_at_call 35; refine (sRemS _ _ _ HZ.out).mono ?_; rintro e w' ⟨rfl, rfl⟩) | (go_at_call 36; refine (iDivU _ _ _ HP.out).mono ?_; rintro e w' ⟨rfl, rfl⟩) | (go_at_call 37; refine (iRemU _ _ _ HP.out).mono ?_; rintro e w' ⟨rfl, rfl⟩) | (go_at_call 27; refine (iAdd _ _ _).mono ?_; rintro e w' ⟨rfl, rfl⟩) | (go_at_call 31; refine (iMul _ _ _).mono ?_; rintro e w' ⟨rfl, rfl⟩) | (go_at_call 30; refine (iWrap _ _).mono ?_; rintro e w' ⟨rfl, rfl⟩) | (go_at_call 32; refine (iPlain _ _).mono ?_; rintro e w' ⟨rfl, rfl⟩))
    go_ret
    exact ⟨rfl, hb1⟩
theorem fnBits_long (A : Option Addr) (n c : Nat) (w : World) (hn : 1048576 < n) (hm : n ≤ 9223372036854775807) : Calls Try.prog 9 #[.slice A n c] w fun e w' => e = .returned (.bool true) ∧ Below w.heap.size w w' := by
  have hn' : (1048576 : Int) < n := by omega
  clear hn
  go_enter Try.func9, Try.ntmps9
  go_wp2_with fail
  go_ret
  exact ⟨rfl, Below.refl _ _⟩
set_option maxRecDepth 100000 in
theorem fnBits_walk (A0 : Option Addr) (n0 c0 : Nat) (bs0 : List Int) (w : World) (w0 : IsNums .u8 w A0 n0 c0 bs0) : Calls Try.prog 9 #[.slice A0 n0 c0] w fun e w' => e = .returned (.bool true) ∧ Below w.heap.size w w' := by
  have hr := w0.rd
  have hx : ∀ x ∈ bs0, 0 ≤ x ∧ x ≤ 255 := fun x h => u8_of_wf (w0.wf x h)
  have hm : n0 ≤ 9223372036854775807 := by have := w0.max; have := w0.le; unfold maxLen at *; omega
  by_cases hn : 1048576 < n0
  · exact fnBits_long A0 n0 c0 w hn hm
  have hn' : (n0 : Int) ≤ 1048576 := by omega
  have HN := hide (show n0 ≤ 1048576 by omega)
  clear hn hm w0
  have HR := hide hr
  have HX := hide hx
  clear hr hx
  go_enter Try.func9, Try.ntmps9
  go_wp2_with fail
  refine (DrawBits_c A0 n0 c0 bs0 w HR.out HN.out HX.out).mono ?_
  rintro e w1 ⟨op, a, b, rfl, hb1⟩
  go_wp2_with fail
  refine (iBits _ _ _ _).mono ?_
  rintro e w2 ⟨rfl, rfl⟩
  go_wp2_with fail
  refine (sBits _ _ _ _).mono ?_
  rintro e w2 ⟨rfl, m, rfl⟩
  have e1 := bits_add a b
  have e2 := bits_sub a b
  have e3 := bits_dbl a
  have e4 := bits_turn a b
  go_wp2_with (first | (go_at_call 22; refine (iBits _ _ _ _).mono ?_; rintro e w' ⟨rfl, rfl⟩) | (go_at_call 27; refine (iAdd _ _ _).mono ?_; rintro e w' ⟨rfl, rfl⟩) | (go_at_call 29; refine (iSub _ _ _).mono ?_; rintro e w' ⟨rfl, rfl⟩) | (go_at_call 30; refine (iWrap _ _).mono ?_; rintro e w' ⟨rfl, rfl⟩))
  go_ret
  exact ⟨rfl, bel_drewN hb1 m⟩
theorem fnCompare_long (A : Option Addr) (n c : Nat) (w : World) (hn : 1048576 < n) (hm : n ≤ 9223372036854775807) : Calls Try.prog 10 #[.slice A n c] w fun e w' => e = .returned (.bool true) ∧ Below w.heap.size w w' := by
  have hn' : (1048576 : Int) < n := by omega
  clear hn
  go_enter Try.func10, Try.ntmps10
  go_wp2_with fail
  go_ret
  exact ⟨rfl, Below.refl _ _⟩
set_option maxRecDepth 100000 in
theorem fnCompare_walk (A0 : Option Addr) (n0 c0 : Nat) (bs0 : List Int) (w : World) (w0 : IsNums .u8 w A0 n0 c0 bs0) : Calls Try.prog 10 #[.slice A0 n0 c0] w fun e w' => e = .returned (.bool true) ∧ Below w.heap.size w w' := by
  have hr := w0.rd
  have hx : ∀ x ∈ bs0, 0 ≤ x ∧ x ≤ 255 := fun x h => u8_of_wf (w0.wf x h)
  have hm : n0 ≤ 9223372036854775807 := by have := w0.max; have := w0.le; unfold maxLen at *; omega
  by_cases hn : 1048576 < n0
  · exact fnCompare_long A0 n0 c0 w hn hm
  have hn' : (n0 : Int) ≤ 1048576 := by omega
  have HN := hide (show n0 ≤ 1048576 by omega)
  clear hn hm w0
  have HR := hide hr
  have HX := hide hx
  clear hr hx
  go_enter Try.func10, Try.ntmps10
  go_wp2_with fail
  refine (DrawCompare_c A0 n0 c0 bs0 w HR.out HN.out HX.out).mono ?_
  rintro e w1 ⟨op, a, b, rfl, hb1⟩
  go_wp2_with fail
  refine (iCmp _ _ _ _).mono ?_
  rintro e w2 ⟨rfl, rfl⟩
  go_wp2_with fail
  refine (sCmp _ _ _ _).mono ?_
  rintro e w2 ⟨rfl, rfl⟩
  have T3 := hide (tri3 a b)
  have T4 := hide (tri4 a b)
  have T2 := hide (two_not a b)
  go_wp2_with fail
  go_loopw [29] (fun i wr => ∃ k : Nat, k ≤ 2 ∧ i = .int .i64 k ∧ w1.alloc (.cells #[.int .i64 3, .int .i64 4] 3) = wr) (fun i _ => 2 - (intOf i).toNat)
  case atStart => exact ⟨0, by omega, rfl, rfl⟩
  case round =>
    obtain ⟨k, hk, rfl, rfl⟩ := hrel
    rcases (by omega : k = 0 ∨ k = 1 ∨ k = 2) with rfl | rfl | rfl
    · rcases T3.out with ⟨h1, h2, h3, h4, h5⟩ | ⟨h1, h2, h3, h4, h5⟩ | ⟨h1, h2, h3, h4, h5⟩
      all_goals
        go_wp2_with (go_at_call 24; refine (iCmp _ _ _ _).mono ?_; rintro e w' ⟨rfl, rfl⟩)
        go_roundw
        case rel => exact ⟨1, by omega, rfl, trivial⟩
        case measure => simp [intOf]
    · rcases T4.out with ⟨h1, h2, h3, h4, h5⟩ | ⟨h1, h2, h3, h4, h5⟩ | ⟨h1, h2, h3, h4, h5⟩
      all_goals
        go_wp2_with (go_at_call 24; refine (iCmp _ _ _ _).mono ?_; rintro e w' ⟨rfl, rfl⟩)
        go_roundw
        case rel => exact ⟨2, by omega, rfl, trivial⟩
        case measure => simp [intOf]
    · rcases T2.out with ⟨h1, h2⟩ | ⟨h1, h2⟩
      all_goals
        go_wp2_with (go_at_call 24; refine (iCmp _ _ _ _).mono ?_; rintro e w' ⟨rfl, rfl⟩)
        go_ret
        exact ⟨rfl, hb1.alloc hb1.size _⟩
end Go.Proofs.Ytpnicmhgenbnmaa
