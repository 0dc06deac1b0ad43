/- The law on numbers that are read in pieces, walked. -/
import Derived.Test.YtflecejioaokmaaPcsL
namespace Go.Proofs.Ytflecejioaokmaa
open Go.RowKit Go.Proofs.Ytflecejioaokmaa.Num Go.Proofs.Ytflecejioaokmaa.NumC Go.Proofs.Ytflecejioaokmaa.Mem Go.Proofs.Ytflecejioaokmaa.Draw Go.Proofs.Ytflecejioaokmaa.Leb Go.Proofs.Ytflecejioaokmaa.PutC
set_option linter.unusedVariables false
theorem DrawGetU_c (A : Option Addr) (n c : Nat) (bs : List Int) (w : World) (hr : Rd w w.heap.size 1 A n (by8 bs)) (hn : n ≤ 1048576) (hx : ∀ x ∈ bs, 0 ≤ x ∧ x ≤ 255) :
    Calls Try.prog 9 #[.slice A n c] w fun e w' => ∃ (B : Option Addr) (m d : Nat) (l : List Int) (a : Int), e = .returned (.tuple #[.slice B m d, .int .i64 a]) ∧ m ≤ 20 ∧ (∀ x ∈ l, 0 ≤ x ∧ x ≤ 255) ∧ Rd w' w'.heap.size 1 B m (by8 l) ∧ Below w.heap.size w w' := by
  go_enter Try.func9, Try.ntmps9
  go_wp2_with fail
  refine (new_c A n c bs w hr hn hx).mono ?_
  rintro e w1 ⟨g, rfl, hg, hc1, hb1⟩
  have hgl := cur_lt hc1
  clear hr hx
  go_wp2_with fail
  refine (leb_g g A n c bs w1 hc1).mono ?_
  rintro e w2 ⟨B, m, d, l, a, rfl, hm, hx, ho, hc2, hg2⟩
  have HO := hide ho
  have HX := hide hx
  clear ho hx
  go_wp2_with fail
  go_ret2
  exact ⟨B, m, d, l, a, rfl, hm, HX.out, HO.out.rd, hb1.trans (gr_below hg2 hg (by omega))⟩
theorem fnPieces_long (A : Option Addr) (n c : Nat) (w : World) (hn : 1048576 < n) (hm : n ≤ 9223372036854775807) : Calls Try.prog 3 #[.slice A n c] w fun e w' => e = .returned (.bool true) ∧ Below w.heap.size w w' := by
  have hn' : (1048576 : Int) < n := by omega
  clear hn
  go_enter Try.func3, Try.ntmps3
  go_wp2_with fail
  go_ret
  exact ⟨rfl, Below.refl _ _⟩
theorem getU_bool (l : List Int) (a : Int) : getU l a = (0, 0, false) ∨ ∃ p q, getU l a = (p, q, true) := by
  obtain ⟨p, q, b, h⟩ : ∃ p q b, getU l a = (p, q, b) := ⟨_, _, _, rfl⟩
  cases b
  · obtain ⟨rfl, rfl⟩ := getU_false h
    exact .inl h
  · exact .inr ⟨p, q, h⟩
theorem getS_bool (l : List Int) (a : Int) : (∃ p q, getS l a = (p, q, false)) ∨ ∃ p q, getS l a = (p, q, true) := by
  obtain ⟨p, q, b, h⟩ : ∃ p q b, getS l a = (p, q, b) := ⟨_, _, _, rfl⟩
  cases b
  · exact .inl ⟨p, q, h⟩
  · exact .inr ⟨p, q, h⟩
theorem getS_in {bs : List Int} {at_ : Int} (hx : ∀ x ∈ bs, 0 ≤ x ∧ x ≤ 255) {p q : Int} (h : getS bs at_ = (p, q, true)) : 0 ≤ at_ ∧ at_ < bs.length ∧ at_ ≤ q ∧ q ≤ at_ + 5 := by
  unfold getS at h
  split at h
  · simp at h
  · rename_i h1
    obtain ⟨s', l', k', hp⟩ : ∃ s l k, pc bs at_.toNat = (s, l, k) := ⟨_, _, _, rfl⟩
    have hb := pc_bd hx hp
    rw [hp] at h
    split at h
    · simp at h
    · simp only [Prod.mk.injEq, and_true] at h
      omega
theorem rd_none (w : World) : Rd w w.heap.size 1 none 0 (by8 []) := Rd.nil
theorem fnPieces_core (n c : Nat) (A0 : Option Addr) (bs0 : List Int) (w : World) (hn : (n : Int) ≤ 1048576) (HN : Hid (n ≤ 1048576)) (HR : Hid (Rd w w.heap.size 1 A0 n (by8 bs0))) (HX : Hid (∀ x ∈ bs0, 0 ≤ x ∧ x ≤ 255)) :
    Calls Try.prog 3 #[.slice A0 n c] w fun e w' => e = .returned (.bool true) ∧ Below w.heap.size w w' := by
  go_enter Try.func3, Try.ntmps3
  go_wp2_with fail
  refine (DrawGetU_c A0 n c bs0 w HR.out HN.out HX.out).mono ?_
  rintro e w1 ⟨B, m, d, l, a, rfl, hm, hx, hr, hb1⟩
  have hm' : (m : Int) ≤ 20 := by omega
  have C1 := hide (fun w hr => GetC.iGetU B m d l a w hr hx (by omega))
  have C2 := hide (fun w hr => GetC.iGetS B m d l a w hr hx (by omega))
  have C3 := hide (fun w hr => GetC.sGetU B m d l a w hr hx (by omega))
  have C4 := hide (fun w hr => GetC.sGetS B m d l a w hr hx (by omega))
  have HXl := hide hx
  have HLn := hide (show (l.length : Int) ≤ 20 by have := hr.1; simp only [by8, List.length_map] at this; omega)
  have HRl := hide hr
  have B1 := hide hb1
  clear hr hb1 hx hm
  rcases getU_bool l a with hU | ⟨p, q, hU⟩
  · have HU := hide hU
    clear hU
    rcases getS_bool l a with ⟨r, s, hS⟩ | ⟨r, s, hS⟩
    · have HS := hide hS
      clear hS
      go_wp2_with fail
      refine (C1.out w1 HRl.out).mono ?_
      rintro e w2 ⟨he, rfl⟩
      unfold GetC.Gives at he
      rw [HU.out] at he
      subst he
      go_wp2_with fail
      refine (C2.out w1 HRl.out).mono ?_
      rintro e w2 ⟨he, rfl⟩
      unfold GetC.Gives at he
      rw [HS.out] at he
      subst he
      go_wp2_with fail
      refine (C3.out w1 HRl.out).mono ?_
      rintro e w2 ⟨he, rfl⟩
      unfold GetC.Gives at he
      rw [HU.out] at he
      subst he
      go_wp2_with fail
      refine (C4.out w1 HRl.out).mono ?_
      rintro e w2 ⟨he, rfl⟩
      unfold GetC.Gives at he
      rw [HS.out] at he
      subst he
      go_wp2_with fail
      go_ret
      exact ⟨rfl, B1.out⟩
    · have gs := getS_in HXl.out hS
      have hlb := HLn.out
      have b0 : 0 ≤ a := by omega
      have b1 : a ≤ 20 := by omega
      have s0 : 0 ≤ s := by omega
      have s1 : s ≤ 40 := by omega
      have hsa : wrap64 (s - a) = s - a := by unfold wrap64; omega
      clear gs hlb
      obtain ⟨⟨f3, f3'⟩, f4⟩ := getS_few HXl.out hS
      have HS := hide hS
      have hw : wrap32 r = r := by unfold wrap32; omega
      have CS := hide (fun w => iPutS none 0 0 [] r w (rd_none w) (by omega))
      rw [hw] at CS
      obtain ⟨ls, hls⟩ : ∃ ls : Nat, (putS 5 r).length = ls := ⟨_, rfl⟩
      rw [hls, Nat.zero_add] at CS
      rw [hls] at f4
      have fs : (ls : Int) ≤ s - a := f4
      have hrb : (r == r) = true := by simp
      have hle : decide ((ls : Int) ≤ s - a) = true := decide_eq_true (by omega)
      clear f3 f3' f4 hS hls
      go_wp2_with fail
      refine (C1.out w1 HRl.out).mono ?_
      rintro e w2 ⟨he, rfl⟩
      unfold GetC.Gives at he
      rw [HU.out] at he
      subst he
      go_wp2_with fail
      refine (C2.out w1 HRl.out).mono ?_
      rintro e w2 ⟨he, rfl⟩
      unfold GetC.Gives at he
      rw [HS.out] at he
      subst he
      go_wp2_with fail
      refine (C3.out w1 HRl.out).mono ?_
      rintro e w2 ⟨he, rfl⟩
      unfold GetC.Gives at he
      rw [HU.out] at he
      subst he
      go_wp2_with fail
      refine (C4.out w1 HRl.out).mono ?_
      rintro e w2 ⟨he, rfl⟩
      unfold GetC.Gives at he
      rw [HS.out] at he
      subst he
      go_wp2_with (go_at_call 16; refine (iWrap _ _).mono ?_; rintro e w' ⟨rfl, rfl⟩)
      refine (CS.out _).mono ?_
      rintro e w4 ⟨A4, d4, rfl, ho4, hb4⟩
      have B4 := hide (bel_step B1.out hb4 B1.out.size)
      clear ho4 hb4
      go_wp2_with fail
      go_ret
      exact ⟨rfl, B4.out⟩
  · have gt := getU_true HXl.out hU
    have hla := HLn.out
    have a0 : 0 ≤ a := by omega
    have a1 : a ≤ 20 := by omega
    have q0 : 0 ≤ q := by omega
    have q1 : q ≤ 40 := by omega
    have hqa : wrap64 (q - a) = q - a := by unfold wrap64; omega
    clear gt hla
    obtain ⟨f1, f2⟩ := getU_few HXl.out hU
    have HU := hide hU
    have CU := hide (fun w => iPutU none 0 0 [] p w (rd_none w) (by omega))
    rw [f1] at CU
    obtain ⟨lu, hlu⟩ : ∃ lu : Nat, (putU 5 p).length = lu := ⟨_, rfl⟩
    rw [hlu, Nat.zero_add] at CU
    rw [hlu] at f2
    have fu : (lu : Int) ≤ q - a := f2
    have hp : p % 4294967296 = p := f1
    have hpb : (p == p) = true := by simp
    have hgt : decide ((lu : Int) > q - a) = false := decide_eq_false (by omega)
    clear f1 f2 hU hlu
    rcases getS_bool l a with ⟨r, s, hS⟩ | ⟨r, s, hS⟩
    · have HS := hide hS
      clear hS
      go_wp2_with fail
      refine (C1.out w1 HRl.out).mono ?_
      rintro e w2 ⟨he, rfl⟩
      unfold GetC.Gives at he
      rw [HU.out] at he
      subst he
      go_wp2_with fail
      refine (C2.out w1 HRl.out).mono ?_
      rintro e w2 ⟨he, rfl⟩
      unfold GetC.Gives at he
      rw [HS.out] at he
      subst he
      go_wp2_with fail
      refine (C3.out w1 HRl.out).mono ?_
      rintro e w2 ⟨he, rfl⟩
      unfold GetC.Gives at he
      rw [HU.out] at he
      subst he
      go_wp2_with fail
      refine (C4.out w1 HRl.out).mono ?_
      rintro e w2 ⟨he, rfl⟩
      unfold GetC.Gives at he
      rw [HS.out] at he
      subst he
      go_wp2_with (go_at_call 14; refine (iPlain _ _).mono ?_; rintro e w' ⟨rfl, rfl⟩)
      refine (CU.out w1).mono ?_
      rintro e w3 ⟨A3, d3, rfl, ho3, hb3⟩
      have B3 := hide (bel_step B1.out hb3 B1.out.size)
      clear ho3 hb3
      go_wp2_with fail
      go_ret
      exact ⟨rfl, B3.out⟩
    · have gs := getS_in HXl.out hS
      have hlb := HLn.out
      have b0 : 0 ≤ a := by omega
      have b1 : a ≤ 20 := by omega
      have s0 : 0 ≤ s := by omega
      have s1 : s ≤ 40 := by omega
      have hsa : wrap64 (s - a) = s - a := by unfold wrap64; omega
      clear gs hlb
      obtain ⟨⟨f3, f3'⟩, f4⟩ := getS_few HXl.out hS
      have HS := hide hS
      have hw : wrap32 r = r := by unfold wrap32; omega
      have CS := hide (fun w => iPutS none 0 0 [] r w (rd_none w) (by omega))
      rw [hw] at CS
      obtain ⟨ls, hls⟩ : ∃ ls : Nat, (putS 5 r).length = ls := ⟨_, rfl⟩
      rw [hls, Nat.zero_add] at CS
      rw [hls] at f4
      have fs : (ls : Int) ≤ s - a := f4
      have hrb : (r == r) = true := by simp
      have hle : decide ((ls : Int) ≤ s - a) = true := decide_eq_true (by omega)
      clear f3 f3' f4 hS hls
      go_wp2_with fail
      refine (C1.out w1 HRl.out).mono ?_
      rintro e w2 ⟨he, rfl⟩
      unfold GetC.Gives at he
      rw [HU.out] at he
      subst he
      go_wp2_with fail
      refine (C2.out w1 HRl.out).mono ?_
      rintro e w2 ⟨he, rfl⟩
      unfold GetC.Gives at he
      rw [HS.out] at he
      subst he
      go_wp2_with fail
      refine (C3.out w1 HRl.out).mono ?_
      rintro e w2 ⟨he, rfl⟩
      unfold GetC.Gives at he
      rw [HU.out] at he
      subst he
      go_wp2_with fail
      refine (C4.out w1 HRl.out).mono ?_
      rintro e w2 ⟨he, rfl⟩
      unfold GetC.Gives at he
      rw [HS.out] at he
      subst he
      go_wp2_with (go_at_call 14; refine (iPlain _ _).mono ?_; rintro e w' ⟨rfl, rfl⟩)
      refine (CU.out w1).mono ?_
      rintro e w3 ⟨A3, d3, rfl, ho3, hb3⟩
      have B3 := hide (bel_step B1.out hb3 B1.out.size)
      clear ho3 hb3
      go_wp2_with (go_at_call 16; refine (iWrap _ _).mono ?_; rintro e w' ⟨rfl, rfl⟩)
      refine (CS.out _).mono ?_
      rintro e w4 ⟨A4, d4, rfl, ho4, hb4⟩
      have B4 := hide (bel_step B3.out hb4 B3.out.size)
      clear ho4 hb4
      go_wp2_with fail
      go_ret
      exact ⟨rfl, B4.out⟩
theorem fnPieces_walk (A0 : Option Addr) (n0 c0 : Nat) (bs0 : List Int) (w : World) (w0 : IsNums .u8 w A0 n0 c0 bs0) : Calls Try.prog 3 #[.slice A0 n0 c0] w fun e w' => e = .returned (.bool true) ∧ Below w.heap.size w w' := by
  have hx : ∀ x ∈ bs0, 0 ≤ x ∧ x ≤ 255 := fun x h => u8_of_wf (w0.wf x h)
  have hm : n0 ≤ 9223372036854775807 := by have := w0.max; have := w0.le; unfold maxLen at *; omega
  by_cases hn : 1048576 < n0
  · exact fnPieces_long A0 n0 c0 w hn hm
  · exact fnPieces_core n0 c0 A0 bs0 w (by omega) (hide (by omega)) w0.rd hx
end Go.Proofs.Ytflecejioaokmaa
