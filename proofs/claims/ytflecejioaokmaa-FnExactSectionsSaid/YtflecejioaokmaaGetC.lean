/- What GetU and GetS read, in the program and in the reference: a contract each. -/
import Derived.Test.YtflecejioaokmaaNumC
import Derived.Test.YtflecejioaokmaaBytes
import Derived.Test.YtflecejioaokmaaLeb
namespace Go.Proofs.Ytflecejioaokmaa.GetC
open Go.RowKit Go.Proofs.Ytflecejioaokmaa.Num Go.Proofs.Ytflecejioaokmaa.NumC Go.Proofs.Ytflecejioaokmaa.Mem Go.Proofs.Ytflecejioaokmaa.Leb

theorem within_t (x lo hi : Int) (w : World) (h : lo ≤ x) (h' : x ≤ hi) : Calls Try.prog 49 #[.int .i64 x, .int .i64 lo, .int .i64 hi] w fun e w' => e = .returned (.bool true) ∧ w = w' := by
  go_enter Try.func49, Try.ntmps49
  go_wp2_with fail
  go_ret
  exact ⟨rfl, rfl⟩
theorem within_f (x lo hi : Int) (w : World) (h : x < lo ∨ hi < x) : Calls Try.prog 49 #[.int .i64 x, .int .i64 lo, .int .i64 hi] w fun e w' => e = .returned (.bool false) ∧ w = w' := by
  by_cases h1 : x < lo
  · clear h
    go_enter Try.func49, Try.ntmps49
    go_wp2_with fail
    go_ret
    exact ⟨rfl, rfl⟩
  · have h2 : lo ≤ x := by omega
    have h3 : hi < x := by omega
    have h4 : decide (x ≤ hi) = false := by simp; omega
    clear h h1
    go_enter Try.func49, Try.ntmps49
    go_wp2_with fail
    go_ret
    exact ⟨rfl, rfl⟩

theorem ret3 {a b c d x y : Int} (h : a = b) (h' : c = d) (h'' : x = y) : Ending.returned (.tuple #[.int .i64 a, .int .i64 c, .int .i64 x]) = .returned (.tuple #[.int .i64 b, .int .i64 d, .int .i64 y]) := by rw [h, h', h'']
/-- the loop's relation: i pieces are read -/
def GR (bs : List Int) (a : Nat) (s i : Value) : Prop := ∃ (k : Nat) (y : Int), k ≤ 5 ∧ i = .int .i64 k ∧ s = .int .i64 y ∧ 0 ≤ y ∧ y < 34359738368 ∧ Hid (Got bs a k y)

theorem iPieces (A : Option Addr) (n c a : Nat) (bs : List Int) (w : World) (hr : Rd w w.heap.size 1 A n (by8 bs)) (hx : ∀ x ∈ bs, 0 ≤ x ∧ x ≤ 255) (hn : (n : Int) ≤ 70368744177664) (ha : a < n) :
    Calls Try.prog 48 #[.slice A n c, .int .i64 a] w fun e w' => e = .returned (.tuple #[.int .i64 (pc bs a).1, .int .i64 (pc bs a).2.1, .int .i64 ((pc bs a).2.2 : Nat)]) ∧ w = w' := by
  have HR := hide hr
  have HX := hide hx
  have HL := hide (show bs.length = n by have := hr.1; simp only [by8, List.length_map] at this; omega)
  clear hr hx
  obtain ⟨b, off, rfl, _, hcell⟩ := HR.out.2 (by omega)
  have HC := hide hcell
  clear hcell
  go_enter Try.func48, Try.ntmps48
  go_wp2_with (go_at_call 49; refine (within_t _ _ _ _ (by omega) (by omega)).mono ?_; rintro e w' ⟨rfl, rfl⟩)
  go_loop [7, 8] (fun s i => GR bs a s i) (fun _ i => 5 - (intOf i).toNat)
  case atStart => exact ⟨0, 0, by omega, rfl, rfl, by omega, by omega, hide (got_0 (by have := HL.out; omega))⟩
  case round =>
    obtain ⟨k, y, hk, rfl, rfl, y0, y1, HG⟩ := hrel
    by_cases h5 : k = 5
    · subst h5
      go_wp2_with fail
      go_ret3
      exact ⟨by rw [got_5 HG.out]; rfl, rfl⟩
    · by_cases hend : a + k < n
      · have hl : a + k < bs.length := by have := HL.out; omega
        have hv := HX.out _ (List.getElem_mem hl)
        have hc := HC.out (a + k) _ (by8_get hl)
        obtain ⟨v, hv2⟩ : ∃ v, bs[a + k]'hl = v := ⟨_, rfl⟩
        have HV := hide hv2
        rw [hv2] at hv hc
        clear hv2
        obtain ⟨p, hp, p0, p1, HP⟩ := piece v k hv.1 (by omega)
        have HE := hide hp
        have hk4 : k ≤ 4 := by omega
        by_cases h128 : v < 128
        · go_wp2_with fail
          go_ret3
          refine ⟨?_, rfl⟩
          rw [got_stop HG.out hk4 hl HV.out h128, HE.out]
          exact ret3 rfl rfl (by simp)
        · go_wp2_with fail
          go_round
          case rel =>
            have hg := got_more HG.out hk4 hl HV.out (by omega) HE.out HP
            have h2 := pow_le5 (k + 1) (by omega)
            have h3 := hg.1
            exact ⟨k + 1, y + p, by omega, by go_num, rfl, by omega, by omega, hide hg⟩
          case measure => simp [intOf]; omega
      · go_wp2_with fail
        go_ret3
        exact ⟨by rw [got_end HG.out (by have := HL.out; omega)]; rfl, rfl⟩
theorem iPieces_out (A : Option Addr) (n c : Nat) (a : Int) (w : World) (hn : (n : Int) ≤ 70368744177664) (ha : a < 0 ∨ (n : Int) - 1 < a) :
    Calls Try.prog 48 #[.slice A n c, .int .i64 a] w fun e w' => e = .returned (.tuple #[.int .i64 0, .int .i64 0, .int .i64 0]) ∧ w = w' := by
  have HA := hide ha
  clear ha
  go_enter Try.func48, Try.ntmps48
  go_wp2_with (go_at_call 49; refine (within_f _ _ _ _ HA.out).mono ?_; rintro e w' ⟨rfl, rfl⟩)
  go_ret3
  exact ⟨rfl, rfl⟩
theorem ret3b {a b c d : Int} {x y : Bool} (h : a = b) (h' : c = d) (h'' : x = y) : Ending.returned (.tuple #[.int .i64 a, .int .i64 c, .bool x]) = .returned (.tuple #[.int .i64 b, .int .i64 d, .bool y]) := by rw [h, h', h'']

/-- what GetU and GetS hand back -/
def Gives (r : Int × Int × Bool) (e : Ending) : Prop := e = .returned (.tuple #[.int .i64 r.1, .int .i64 r.2.1, .bool r.2.2])
theorem iGetU (A : Option Addr) (n c : Nat) (bs : List Int) (at_ : Int) (w : World) (hr : Rd w w.heap.size 1 A n (by8 bs)) (hx : ∀ x ∈ bs, 0 ≤ x ∧ x ≤ 255) (hn : (n : Int) ≤ 70368744177664) :
    Calls Try.prog 10 #[.slice A n c, .int .i64 at_] w fun e w' => Gives (getU bs at_) e ∧ w = w' := by
  have hl : bs.length = n := by have := hr.1; simp only [by8, List.length_map] at this; omega
  by_cases hout : at_ < 0 ∨ (n : Int) - 1 < at_
  · have H := hide (getU_out (bs := bs) (at_ := at_) (by omega))
    have HO := hide hout
    clear hout hl hr hx
    go_enter Try.func10, Try.ntmps10
    go_wp2_with (go_at_call 48; refine (iPieces_out _ _ _ _ _ hn HO.out).mono ?_; rintro e w' ⟨rfl, rfl⟩)
    go_ret3
    exact ⟨by unfold Gives; rw [H.out]; rfl, rfl⟩
  · obtain ⟨a, rfl⟩ : ∃ a : Nat, at_ = a := ⟨at_.toNat, by omega⟩
    have ha : a < n := by omega
    obtain ⟨s, l, k, hp⟩ : ∃ s l k, pc bs a = (s, l, k) := ⟨_, _, _, rfl⟩
    have hb := pc_bd hx hp
    have hC := hide (iPieces A n c a bs w hr hx hn ha)
    rw [hp] at hC
    have hk : k ≤ 5 := by omega
    have hk' : (k : Int) ≤ 5 := by omega
    have ha' : (a : Int) < n := by omega
    by_cases hbad : k = 0 ∨ k = 5 ∧ 15 < l
    · have H := hide (getU_bad (by omega) hp hbad)
      clear hl hr hx hout hp hb ha
      rcases hbad with rfl | ⟨rfl, h15⟩
      all_goals
        go_enter Try.func10, Try.ntmps10
        go_wp2_with (go_at_call 48; refine hC.out.mono ?_; rintro e w' ⟨rfl, rfl⟩)
        go_ret3
        exact ⟨by unfold Gives; rw [H.out]; rfl, rfl⟩
    · have H := hide (getU_ok (by omega) hp hbad)
      have hk0 : ((k : Int) == 0) = false := by rw [beq_eq_false_iff_ne]; omega
      have h1 : 1 ≤ k := by omega
      by_cases h5 : k = 5
      · have h15 : l ≤ 15 := by omega
        subst h5
        clear hl hr hx hout hp hb ha hbad
        go_enter Try.func10, Try.ntmps10
        go_wp2_with (go_at_call 48; refine hC.out.mono ?_; rintro e w' ⟨rfl, rfl⟩)
        go_ret3
        exact ⟨by unfold Gives; rw [H.out]; rfl, rfl⟩
      · have h5' : ((k : Int) == 5) = false := by rw [beq_eq_false_iff_ne]; omega
        clear hl hr hx hout hp hb ha hbad h5
        go_enter Try.func10, Try.ntmps10
        go_wp2_with (go_at_call 48; refine hC.out.mono ?_; rintro e w' ⟨rfl, rfl⟩)
        go_ret3
        exact ⟨by unfold Gives; rw [H.out]; rfl, rfl⟩
theorem iGetS (A : Option Addr) (n c : Nat) (bs : List Int) (at_ : Int) (w : World) (hr : Rd w w.heap.size 1 A n (by8 bs)) (hx : ∀ x ∈ bs, 0 ≤ x ∧ x ≤ 255) (hn : (n : Int) ≤ 70368744177664) :
    Calls Try.prog 11 #[.slice A n c, .int .i64 at_] w fun e w' => Gives (getS bs at_) e ∧ w = w' := by
  have hl : bs.length = n := by have := hr.1; simp only [by8, List.length_map] at this; omega
  by_cases hout : at_ < 0 ∨ (n : Int) - 1 < at_
  · have H := hide (getS_out (bs := bs) (at_ := at_) (by omega))
    have HO := hide hout
    clear hout hl hr hx
    go_enter Try.func11, Try.ntmps11
    go_wp2_with (go_at_call 48; refine (iPieces_out _ _ _ _ _ hn HO.out).mono ?_; rintro e w' ⟨rfl, rfl⟩)
    go_ret3
    exact ⟨by unfold Gives; rw [H.out]; rfl, rfl⟩
  · obtain ⟨a, rfl⟩ : ∃ a : Nat, at_ = a := ⟨at_.toNat, by omega⟩
    have ha : a < n := by omega
    obtain ⟨s, l, k, hp⟩ : ∃ s l k, pc bs a = (s, l, k) := ⟨_, _, _, rfl⟩
    have hb := pc_bd hx hp
    have hC := hide (iPieces A n c a bs w hr hx hn ha)
    rw [hp] at hC
    have hk : k ≤ 5 := by omega
    have ha' : (a : Int) < n := by omega
    have l0 : 0 ≤ l := by omega
    have l1 : l < 128 := by omega
    have s0 : 0 ≤ s := by omega
    have s1 : s < 34359738368 := by
      rcases hb with h | ⟨_, h, _⟩
      · omega
      · have := pow_le5 k hk
        omega
    by_cases hbad : k = 0 ∨ k = 5 ∧ 8 ≤ l ∧ l ≤ 119
    · have H := hide (getS_bad (by omega) hp hbad)
      clear hl hr hx hout hp hb ha
      rcases hbad with rfl | ⟨rfl, h8, h9⟩
      all_goals
        go_enter Try.func11, Try.ntmps11
        go_wp2_with (first | (go_at_call 48; refine hC.out.mono ?_; rintro e w' ⟨rfl, rfl⟩) | (go_at_call 49; refine (within_t _ _ _ _ (by omega) (by omega)).mono ?_; rintro e w' ⟨rfl, rfl⟩))
        go_ret3
        exact ⟨by unfold Gives; rw [H.out]; rfl, rfl⟩
    · have hok := getS_ok (by omega) hp hbad
      have hk1 : 1 ≤ k := by omega
      by_cases h64 : 64 ≤ l
      · rw [if_pos h64] at hok
        rcases (by omega : k = 1 ∨ k = 2 ∨ k = 3 ∨ k = 4 ∨ k = 5) with rfl | rfl | rfl | rfl | rfl
        all_goals
          have H := hide hok
          try (have HW2 : Hid (l < 8 ∨ 119 < l) := hide (by omega))
          clear hl hr hx hout hp hb ha hbad hok
          go_enter Try.func11, Try.ntmps11
          go_wp2_with (first | (go_at_call 48; refine hC.out.mono ?_; rintro e w' ⟨rfl, rfl⟩) | (go_at_call 49; refine (within_f _ _ _ _ HW2.out).mono ?_; rintro e w' ⟨rfl, rfl⟩))
          go_ret3
          exact ⟨by unfold Gives; rw [H.out]; exact ret3b (by simp) (by simp) rfl, rfl⟩
      · rw [if_neg h64] at hok
        have h64' : l ≤ 63 := by omega
        rcases (by omega : k = 1 ∨ k = 2 ∨ k = 3 ∨ k = 4 ∨ k = 5) with rfl | rfl | rfl | rfl | rfl
        all_goals
          have H := hide hok
          try (have HW2 : Hid (l < 8 ∨ 119 < l) := hide (by omega))
          clear hl hr hx hout hp hb ha hbad hok
          go_enter Try.func11, Try.ntmps11
          go_wp2_with (first | (go_at_call 48; refine hC.out.mono ?_; rintro e w' ⟨rfl, rfl⟩) | (go_at_call 49; refine (within_f _ _ _ _ HW2.out).mono ?_; rintro e w' ⟨rfl, rfl⟩))
          go_ret3
          exact ⟨by unfold Gives; rw [H.out]; rfl, rfl⟩
theorem results_tmp4 {fn : Func} {t u v x : Tmp} (h : fn.results = #[.tmp t, .tmp u, .tmp v, .tmp x]) (tmps : Array Value) (P : Program) (w : World) :
    (results fn tmps).run P w = .ok (.tuple #[tmps.getD t undef, tmps.getD u undef, tmps.getD v undef, tmps.getD x undef]) w := by simp [results, h]
theorem ret4 {a b c d x y z u : Int} (h : a = b) (h' : c = d) (h'' : x = y) (h3 : z = u) : Ending.returned (.tuple #[.int .i64 a, .int .i64 c, .int .i64 x, .int .i64 z]) = .returned (.tuple #[.int .i64 b, .int .i64 d, .int .i64 y, .int .i64 u]) := by rw [h, h', h'', h3]
/-- the place behind -/
def pcN (bs : List Int) (a : Nat) : Int := if (pc bs a).2.2 = 0 then 0 else (a : Int) + ((pc bs a).2.2 : Nat)
theorem sPieces (A : Option Addr) (n c a : Nat) (bs : List Int) (w : World) (hr : Rd w w.heap.size 1 A n (by8 bs)) (hx : ∀ x ∈ bs, 0 ≤ x ∧ x ≤ 255) (hn : (n : Int) ≤ 70368744177664) (ha : a < n) :
    Calls Try.prog 50 #[.slice A n c, .int .i64 a] w fun e w' => e = .returned (.tuple #[.int .i64 (pc bs a).1, .int .i64 (pcN bs a), .int .i64 (pc bs a).2.1, .int .i64 ((pc bs a).2.2 : Nat)]) ∧ w = w' := by
  have HR := hide hr
  have HX := hide hx
  have HL := hide (show bs.length = n by have := hr.1; simp only [by8, List.length_map] at this; omega)
  clear hr hx
  obtain ⟨b, off, rfl, _, hcell⟩ := HR.out.2 (by omega)
  have HC := hide hcell
  clear hcell
  go_enter Try.func50, Try.ntmps50
  go_wp2_with fail
  go_loop [8, 9] (fun s i => GR bs a s i) (fun _ i => 5 - (intOf i).toNat)
  case atStart => exact ⟨0, 0, by omega, rfl, rfl, by omega, by omega, hide (got_0 (by have := HL.out; omega))⟩
  case round =>
    obtain ⟨k, y, hk, rfl, rfl, y0, y1, HG⟩ := hrel
    by_cases h5 : k = 5
    · subst h5
      go_wp2_with fail
      refine bodyPost_ret (results_tmp4 rfl _ _ _) rfl ?_
      exact ⟨by unfold pcN; rw [got_5 HG.out]; rfl, rfl⟩
    · by_cases hend : a + k < n
      · have hl : a + k < bs.length := by have := HL.out; omega
        have hv := HX.out _ (List.getElem_mem hl)
        have hc := HC.out (a + k) _ (by8_get hl)
        obtain ⟨v, hv2⟩ : ∃ v, bs[a + k]'hl = v := ⟨_, rfl⟩
        have HV := hide hv2
        rw [hv2] at hv hc
        clear hv2
        obtain ⟨p, hp, p0, p1, HP⟩ := piece v k hv.1 (by omega)
        have HE := hide hp
        have hk4 : k ≤ 4 := by omega
        have hm := and127 v
        by_cases h128 : v < 128
        · go_wp2_with fail
          refine bodyPost_ret (results_tmp4 rfl _ _ _) rfl ?_
          refine ⟨?_, rfl⟩
          unfold pcN
          rw [got_stop HG.out hk4 hl HV.out h128, HE.out]
          exact ret4 rfl (by rw [if_neg (by simp)]; simp; omega) rfl (by simp)
        · go_wp2_with fail
          go_round
          case rel =>
            have hg := got_more HG.out hk4 hl HV.out (by omega) HE.out HP
            have h2 := pow_le5 (k + 1) (by omega)
            have h3 := hg.1
            exact ⟨k + 1, y + p, by omega, by go_num, rfl, by omega, by omega, hide hg⟩
          case measure => simp [intOf]; omega
      · go_wp2_with fail
        refine bodyPost_ret (results_tmp4 rfl _ _ _) rfl ?_
        exact ⟨by unfold pcN; rw [got_end HG.out (by have := HL.out; omega)]; rfl, rfl⟩
theorem sGetU (A : Option Addr) (n c : Nat) (bs : List Int) (at_ : Int) (w : World) (hr : Rd w w.heap.size 1 A n (by8 bs)) (hx : ∀ x ∈ bs, 0 ≤ x ∧ x ≤ 255) (hn : (n : Int) ≤ 70368744177664) :
    Calls Try.prog 12 #[.slice A n c, .int .i64 at_] w fun e w' => Gives (getU bs at_) e ∧ w = w' := by
  have hl : bs.length = n := by have := hr.1; simp only [by8, List.length_map] at this; omega
  by_cases hout : at_ < 0 ∨ (n : Int) - 1 < at_
  · have H := hide (getU_out (bs := bs) (at_ := at_) (by omega))
    have HO := hide hout
    clear hl hr hx
    rcases hout with ho | ho
    · clear HO
      go_enter Try.func12, Try.ntmps12
      go_wp2_with fail
      go_ret3
      exact ⟨by unfold Gives; rw [H.out]; rfl, rfl⟩
    · have h1 : 0 ≤ at_ := by omega
      have h2 : (n : Int) ≤ at_ := by omega
      clear HO
      go_enter Try.func12, Try.ntmps12
      go_wp2_with fail
      go_ret3
      exact ⟨by unfold Gives; rw [H.out]; rfl, rfl⟩
  · obtain ⟨a, rfl⟩ : ∃ a : Nat, at_ = a := ⟨at_.toNat, by omega⟩
    have ha : a < n := by omega
    obtain ⟨s, l, k, hp⟩ : ∃ s l k, pc bs a = (s, l, k) := ⟨_, _, _, rfl⟩
    have hb := pc_bd hx hp
    have hC := hide (sPieces A n c a bs w hr hx hn ha)
    have hN : pcN bs a = if k = 0 then 0 else (a : Int) + k := by unfold pcN; rw [hp]
    rw [hN, hp] at hC
    clear hN
    have hk : k ≤ 5 := by omega
    have hk' : (k : Int) ≤ 5 := by omega
    have ha' : (a : Int) < n := by omega
    by_cases hbad : k = 0 ∨ k = 5 ∧ 15 < l
    · have H := hide (getU_bad (by omega) hp hbad)
      clear hl hr hx hout hp hb ha
      rcases hbad with rfl | ⟨rfl, h15⟩
      all_goals
        go_enter Try.func12, Try.ntmps12
        go_wp2_with (go_at_call 50; refine hC.out.mono ?_; rintro e w' ⟨rfl, rfl⟩)
        go_ret3
        exact ⟨by unfold Gives; rw [H.out]; rfl, rfl⟩
    · have H := hide (getU_ok (by omega) hp hbad)
      have hk0 : ((k : Int) == 0) = false := by rw [beq_eq_false_iff_ne]; omega
      have h1 : 1 ≤ k := by omega
      by_cases h5 : k = 5
      · have h15 : l ≤ 15 := by omega
        subst h5
        clear hl hr hx hout hp hb ha hbad
        go_enter Try.func12, Try.ntmps12
        go_wp2_with (go_at_call 50; refine hC.out.mono ?_; rintro e w' ⟨rfl, rfl⟩)
        go_ret3
        exact ⟨by unfold Gives; rw [H.out]; rfl, rfl⟩
      · have h5' : ((k : Int) == 5) = false := by rw [beq_eq_false_iff_ne]; omega
        clear hl hr hx hout hp hb ha hbad h5
        go_enter Try.func12, Try.ntmps12
        go_wp2_with (go_at_call 50; refine hC.out.mono ?_; rintro e w' ⟨rfl, rfl⟩)
        go_ret3
        exact ⟨by unfold Gives; rw [H.out]; rfl, rfl⟩
theorem sGetS (A : Option Addr) (n c : Nat) (bs : List Int) (at_ : Int) (w : World) (hr : Rd w w.heap.size 1 A n (by8 bs)) (hx : ∀ x ∈ bs, 0 ≤ x ∧ x ≤ 255) (hn : (n : Int) ≤ 70368744177664) :
    Calls Try.prog 13 #[.slice A n c, .int .i64 at_] w fun e w' => Gives (getS bs at_) e ∧ w = w' := by
  have hl : bs.length = n := by have := hr.1; simp only [by8, List.length_map] at this; omega
  by_cases hout : at_ < 0 ∨ (n : Int) - 1 < at_
  · have H := hide (getS_out (bs := bs) (at_ := at_) (by omega))
    have HO := hide hout
    clear hl hr hx
    rcases hout with ho | ho
    · clear HO
      go_enter Try.func13, Try.ntmps13
      go_wp2_with fail
      go_ret3
      exact ⟨by unfold Gives; rw [H.out]; rfl, rfl⟩
    · have h1 : 0 ≤ at_ := by omega
      have h2 : (n : Int) ≤ at_ := by omega
      clear HO
      go_enter Try.func13, Try.ntmps13
      go_wp2_with fail
      go_ret3
      exact ⟨by unfold Gives; rw [H.out]; rfl, rfl⟩
  · obtain ⟨a, rfl⟩ : ∃ a : Nat, at_ = a := ⟨at_.toNat, by omega⟩
    have ha : a < n := by omega
    obtain ⟨s, l, k, hp⟩ : ∃ s l k, pc bs a = (s, l, k) := ⟨_, _, _, rfl⟩
    have hb := pc_bd hx hp
    have hC := hide (sPieces A n c a bs w hr hx hn ha)
    have hN : pcN bs a = if k = 0 then 0 else (a : Int) + k := by unfold pcN; rw [hp]
    rw [hN, hp] at hC
    clear hN
    have hk : k ≤ 5 := by omega
    have ha' : (a : Int) < n := by omega
    have l0 : 0 ≤ l := by omega
    have l1 : l < 128 := by omega
    have s0 : 0 ≤ s := by omega
    have s1 : s < 34359738368 := by
      rcases hb with h | ⟨_, h, _⟩
      · omega
      · have := pow_le5 k hk
        omega
    by_cases hbad : k = 0 ∨ k = 5 ∧ 8 ≤ l ∧ l ≤ 119
    · have H := hide (getS_bad (by omega) hp hbad)
      clear hl hr hx hout hp hb ha
      rcases hbad with rfl | ⟨rfl, h8, h9⟩
      all_goals
        go_enter Try.func13, Try.ntmps13
        go_wp2_with (go_at_call 50; refine hC.out.mono ?_; rintro e w' ⟨rfl, rfl⟩)
        go_ret3
        exact ⟨by unfold Gives; rw [H.out]; rfl, rfl⟩
    · have hok := getS_ok (by omega) hp hbad
      have hk1 : 1 ≤ k := by omega
      by_cases h64 : 64 ≤ l
      · rw [if_pos h64] at hok
        rcases (by omega : k = 1 ∨ k = 2 ∨ k = 3 ∨ k = 4 ∨ k = 5) with rfl | rfl | rfl | rfl | rfl
        all_goals
          have H := hide hok
          try (have h120 : 120 ≤ l := by omega)
          clear hl hr hx hout hp hb ha hbad hok
          go_enter Try.func13, Try.ntmps13
          go_wp2_with (go_at_call 50; refine hC.out.mono ?_; rintro e w' ⟨rfl, rfl⟩)
          go_ret3
          exact ⟨by unfold Gives; rw [H.out]; exact ret3b (by simp) (by simp) rfl, rfl⟩
      · rw [if_neg h64] at hok
        have h64' : l ≤ 63 := by omega
        rcases (by omega : k = 1 ∨ k = 2 ∨ k = 3 ∨ k = 4 ∨ k = 5) with rfl | rfl | rfl | rfl | rfl
        all_goals
          have H := hide hok
          try (have h7 : l ≤ 7 := by omega)
          clear hl hr hx hout hp hb ha hbad hok
          go_enter Try.func13, Try.ntmps13
          go_wp2_with (go_at_call 50; refine hC.out.mono ?_; rintro e w' ⟨rfl, rfl⟩)
          go_ret3
          exact ⟨by unfold Gives; rw [H.out]; rfl, rfl⟩
end Go.Proofs.Ytflecejioaokmaa.GetC
