/- Where a begin has its end and its else, in the program and in the reference: a contract each. -/
import Derived.Test.YtbedkcedooemdaaIns
import Derived.Test.YtbedkcedooemdaaShapeN
namespace Go.Proofs.Ytbedkcedooemdaa.Body
open Go.RowKit Go.Proofs.Ytbedkcedooemdaa.Num Go.Proofs.Ytbedkcedooemdaa.Mem Go.Proofs.Ytbedkcedooemdaa.Shape
set_option linter.unusedVariables false

theorem isBeg_eq {op : Int} (h : isBeg op = true) : op = 2 ∨ op = 3 ∨ op = 4 := by
  simp only [isBeg, Bool.or_eq_true, beq_iff_eq] at h
  omega
theorem isBeg_ne {op : Int} (h : isBeg op = false) : op ≠ 2 ∧ op ≠ 3 ∧ op ≠ 4 := by
  simp only [isBeg, Bool.or_eq_false_iff, beq_eq_false_iff_ne, ne_eq] at h
  omega
theorem rd_cell {w wr : World} {B n : Nat} {A : Option Addr} {l : List Ins3} (h : Rd w B 3 A n (insC l)) (k : Nat) (hk : k < n) (hc : ∀ p : Addr, p.block < B → wr.cell? p = w.cell? p) :
    ∃ b off, A = some ⟨b, off, none⟩ ∧ ∃ x y z, l[k]? = some (x, y, z) ∧ wr.cell? ⟨b, off + k * 3, none⟩ = some (.int .i64 x) ∧ wr.cell? ⟨b, off + k * 3 + 1, none⟩ = some (.int .i64 y) ∧ wr.cell? ⟨b, off + k * 3 + 2, none⟩ = some (.int .i64 z) ∧ b < B := by
  obtain ⟨b, off, rfl, hb, hcell⟩ := h.2 (by omega)
  have hl : k < l.length := by have := rd_ins h; omega
  obtain ⟨q0, q1, q2⟩ := insC_get l k hl
  refine ⟨b, off, rfl, l[k].1, l[k].2.1, l[k].2.2, List.getElem?_eq_getElem hl, (hc _ hb).trans (hcell _ _ q0), ?_, ?_, hb⟩
  · exact (hc ⟨b, off + k * 3 + 1, none⟩ hb).trans (hcell (k * 3 + 1) _ q1)
  · exact (hc ⟨b, off + k * 3 + 2, none⟩ hb).trans (hcell (k * 3 + 2) _ q2)
theorem drop_get {l : List Ins3} {k : Nat} {x : Ins3} (h : l[k]? = some x) : l.drop k = x :: l.drop (k + 1) := by
  obtain ⟨hk, rfl⟩ := List.getElem?_eq_some_iff.1 h
  exact List.drop_eq_getElem_cons hk

theorem within_t (x lo hi : Int) (w : World) (h : lo ≤ x) (h' : x ≤ hi) : Calls Try.prog 13 #[.int .i64 x, .int .i64 lo, .int .i64 hi] w fun e w' => e = .returned (.bool true) ∧ w = w' := by
  go_enter Try.func13, Try.ntmps13
  go_wp2_with fail
  go_ret
  exact ⟨rfl, rfl⟩
theorem within_f (x lo hi : Int) (w : World) (h : x < lo ∨ hi < x) : Calls Try.prog 13 #[.int .i64 x, .int .i64 lo, .int .i64 hi] w fun e w' => e = .returned (.bool false) ∧ w = w' := by
  by_cases h1 : x < lo
  · clear h
    go_enter Try.func13, Try.ntmps13
    go_wp2_with fail
    go_ret
    exact ⟨rfl, rfl⟩
  · have h2 : lo ≤ x := by omega
    have h3 : hi < x := by omega
    have h4 : decide (x ≤ hi) = false := by simp; omega
    clear h h1
    go_enter Try.func13, Try.ntmps13
    go_wp2_with fail
    go_ret
    exact ⟨rfl, rfl⟩
theorem ibeg_c (op : Int) (w : World) : Calls Try.prog 11 #[.int .i64 op] w fun e w' => e = .returned (.bool (isBeg op)) ∧ w = w' := by
  by_cases h2 : op = 2
  · subst h2
    go_enter Try.func11, Try.ntmps11
    go_wp2_with fail
    go_ret
    exact ⟨rfl, rfl⟩
  · by_cases h3 : op = 3
    · subst h3
      go_enter Try.func11, Try.ntmps11
      go_wp2_with fail
      go_ret
      exact ⟨rfl, rfl⟩
    · go_enter Try.func11, Try.ntmps11
      go_wp2_with fail
      go_ret
      exact ⟨rfl, rfl⟩
theorem ibeg_t (op : Int) (w : World) (h : Hid (isBeg op = true)) : Calls Try.prog 11 #[.int .i64 op] w fun e w' => e = .returned (.bool true) ∧ w = w' :=
  (ibeg_c op w).mono fun _ _ ⟨he, hw⟩ => ⟨by rw [he, h.out], hw⟩
theorem ibeg_f (op : Int) (w : World) (h : Hid (isBeg op = false)) : Calls Try.prog 11 #[.int .i64 op] w fun e w' => e = .returned (.bool false) ∧ w = w' :=
  (ibeg_c op w).mono fun _ _ ⟨he, hw⟩ => ⟨by rw [he, h.out], hw⟩
theorem sbeg_c (op : Int) (w : World) : Calls Try.prog 12 #[.int .i64 op] w fun e w' => e = .returned (.bool (isBeg op)) ∧ w = w' := by
  by_cases h2 : op = 2
  · subst h2
    go_enter Try.func12, Try.ntmps12
    go_wp2_with fail
    go_ret
    exact ⟨rfl, rfl⟩
  · by_cases h3 : op = 3
    · subst h3
      go_enter Try.func12, Try.ntmps12
      go_wp2_with fail
      go_ret
      exact ⟨rfl, rfl⟩
    · go_enter Try.func12, Try.ntmps12
      go_wp2_with fail
      go_ret
      exact ⟨rfl, rfl⟩
theorem sbeg_t (op : Int) (w : World) (h : Hid (isBeg op = true)) : Calls Try.prog 12 #[.int .i64 op] w fun e w' => e = .returned (.bool true) ∧ w = w' :=
  (sbeg_c op w).mono fun _ _ ⟨he, hw⟩ => ⟨by rw [he, h.out], hw⟩
theorem sbeg_f (op : Int) (w : World) (h : Hid (isBeg op = false)) : Calls Try.prog 12 #[.int .i64 op] w fun e w' => e = .returned (.bool false) ∧ w = w' :=
  (sbeg_c op w).mono fun _ _ ⟨he, hw⟩ => ⟨by rw [he, h.out], hw⟩
theorem iEndOf (A : Option Addr) (n c : Nat) (l : List Ins3) (a : Int) (w : World) (hr : Rd w w.heap.size 3 A n (insC l)) (hn : n ≤ 1048576) :
    Calls Try.prog 7 #[.slice A n c, .int .i64 a] w fun e w' => e = .returned (.int .i64 (endOf l a)) ∧ w = w' := by
  have hn' : (n : Int) ≤ 1048576 := by omega
  have HR := hide hr
  have HL := hide (rd_ins hr)
  clear hr hn
  by_cases ha : 0 ≤ a ∧ a < n
  · obtain ⟨h0, h1⟩ := ha
    obtain ⟨k0, rfl⟩ : ∃ k0 : Nat, a = k0 := ⟨a.toNat, by omega⟩
    have hk0 : k0 < n := by omega
    obtain ⟨b, off, rfl, x, y, z, hx, hc0, _, _, hb⟩ := rd_cell (wr := w) HR.out k0 hk0 (fun _ _ => rfl)
    have HX := hide hx
    clear hx
    by_cases hbg : isBeg x = true
    · have HB := hide hbg
      have hE := hide (show endOf l k0 = endF (l.drop k0) 0 k0 by
        unfold endOf begAt
        rw [Int.toNat_natCast, List.getD_eq_getElem?_getD, HX.out]
        simp only [Option.getD_some, HB.out]
        rw [if_pos]
        have := HL.out
        simp
        omega)
      obtain ⟨R, hR⟩ : ∃ R, endOf l k0 = R := ⟨_, rfl⟩
      rw [hR] at hE ⊢
      clear hbg hR
      have hd0 : decide ((k0 : Int) < 0) = false := by simp
      have hd1 : decide (n ≤ k0) = false := by simp; omega
      go_enter Try.func7, Try.ntmps7
      go_wp2_with (first | (go_at_call 13; refine (within_t _ _ _ _ (by omega) (by omega)).mono ?_; rintro e w' ⟨rfl, rfl⟩) | (go_at_call 11; refine (ibeg_t _ _ HB).mono ?_; rintro e w' ⟨rfl, rfl⟩))
      go_loop [5, 6] (fun d i => ∃ (k : Nat) (dd : Int), k ≤ n ∧ i = .int .i64 k ∧ d = .int .i64 dd ∧ -(k : Int) ≤ dd ∧ dd ≤ k ∧ Hid (endF (l.drop k) dd k = R)) (fun _ i => n - (intOf i).toNat)
      case atStart => exact ⟨k0, 0, by omega, rfl, rfl, by omega, by omega, hide hE.out.symm⟩
      case round =>
        obtain ⟨k, dd, hk, rfl, rfl, hd0, hd1, HF⟩ := hrel
        by_cases hlt : k < n
        · clear hc0
          obtain ⟨b', off', hA, x, y, z, hx, hc0, _, _, _⟩ := rd_cell (wr := w) HR.out k hlt (fun _ _ => rfl)
          simp only [Option.some.injEq, Addr.mk.injEq, and_true] at hA
          obtain ⟨rfl, rfl⟩ := hA
          have hS := HF.out
          rw [drop_get hx] at hS
          simp only [endF] at hS
          clear hx HF
          by_cases hbg : isBeg x = true
          · rw [if_pos hbg] at hS
            have HBx := hide hbg
            have HS := hide hS
            have h11 : x ≠ 11 := (beg11 hbg).1
            clear hbg hS
            go_wp2_with (go_at_call 11; refine (ibeg_t _ _ HBx).mono ?_; rintro e w' ⟨rfl, rfl⟩)
            go_round
            case rel => exact ⟨k + 1, dd + 1, by omega, by go_num, by go_num, by omega, by omega, hide (by have := HS.out; simpa using this)⟩
            case measure => simp [intOf]; omega
          · rw [if_neg hbg] at hS
            have HBx := hide (show isBeg x = false by simpa using hbg)
            clear hbg
            by_cases h11 : x = 11
            · subst h11
              rw [if_pos rfl] at hS
              by_cases hd : dd = 1
              · subst hd
                rw [if_pos rfl] at hS
                subst hS
                go_wp2_with (go_at_call 11; refine (ibeg_f _ _ HBx).mono ?_; rintro e w' ⟨rfl, rfl⟩)
                go_ret
                exact ⟨rfl, rfl⟩
              · rw [if_neg hd] at hS
                have HS := hide hS
                have hd2 : dd - 1 ≠ 0 := by omega
                clear hS
                go_wp2_with (go_at_call 11; refine (ibeg_f _ _ HBx).mono ?_; rintro e w' ⟨rfl, rfl⟩)
                go_round
                case rel => exact ⟨k + 1, dd - 1, by omega, by go_num, by go_num, by omega, by omega, hide (by have := HS.out; simpa using this)⟩
                case measure => simp [intOf]; omega
            · rw [if_neg h11] at hS
              have HS := hide hS
              clear hS
              go_wp2_with (go_at_call 11; refine (ibeg_f _ _ HBx).mono ?_; rintro e w' ⟨rfl, rfl⟩)
              go_round
              case rel => exact ⟨k + 1, dd, by omega, by go_num, rfl, by omega, by omega, hide (by have := HS.out; simpa using this)⟩
              case measure => simp [intOf]; omega
        · obtain rfl : k = n := by omega
          have hS := HF.out
          rw [List.drop_eq_nil_of_le (by have := HL.out; omega)] at hS
          simp only [endF] at hS
          subst hS
          go_wp2_with fail
          go_ret
          exact ⟨rfl, rfl⟩
    · have HB := hide (show isBeg x = false by simpa using hbg)
      have hE : endOf l k0 = -1 := by
        unfold endOf begAt
        rw [Int.toNat_natCast, List.getD_eq_getElem?_getD, HX.out]
        simp [HB.out]
      rw [hE]
      clear hbg hE
      have hd0 : decide ((k0 : Int) < 0) = false := by simp
      have hd1 : decide (n ≤ k0) = false := by simp; omega
      go_enter Try.func7, Try.ntmps7
      go_wp2_with (first | (go_at_call 13; refine (within_t _ _ _ _ (by omega) (by omega)).mono ?_; rintro e w' ⟨rfl, rfl⟩) | (go_at_call 11; refine (ibeg_f _ _ HB).mono ?_; rintro e w' ⟨rfl, rfl⟩))
      go_ret
      exact ⟨rfl, rfl⟩
  · have hE : endOf l a = -1 := by
      unfold endOf begAt
      have := HL.out
      rw [if_neg]
      simp only [Bool.and_eq_true, decide_eq_true_eq]
      omega
    rw [hE]
    clear hE
    by_cases h0 : a < 0
    · clear ha
      go_enter Try.func7, Try.ntmps7
      go_wp2_with (go_at_call 13; refine (within_f _ _ _ _ (by omega)).mono ?_; rintro e w' ⟨rfl, rfl⟩)
      go_ret
      exact ⟨rfl, rfl⟩
    · have h1 : (n : Int) ≤ a := by omega
      have h0' : 0 ≤ a := by omega
      clear ha h0
      go_enter Try.func7, Try.ntmps7
      go_wp2_with (go_at_call 13; refine (within_f _ _ _ _ (by omega)).mono ?_; rintro e w' ⟨rfl, rfl⟩)
      go_ret
      exact ⟨rfl, rfl⟩
theorem iElseOf (A : Option Addr) (n c : Nat) (l : List Ins3) (a : Int) (w : World) (hr : Rd w w.heap.size 3 A n (insC l)) (hn : n ≤ 1048576) :
    Calls Try.prog 8 #[.slice A n c, .int .i64 a] w fun e w' => e = .returned (.int .i64 (elseOf l a)) ∧ w = w' := by
  have hn' : (n : Int) ≤ 1048576 := by omega
  have cE := hide (iEndOf A n c l a w hr hn)
  have HR := hide hr
  have HL := hide (rd_ins hr)
  have hE : endOf l a = -1 ∨ (0 ≤ a ∧ a < endOf l a ∧ endOf l a < n) := by have := endOf_bd l a; rw [HL.out] at this; exact this
  have hD := hide (show elseOf l a = if 0 ≤ endOf l a ∧ (l.getD a.toNat (0, 0, 0)).1 = 4 then elseF ((l.drop a.toNat).take ((endOf l a).toNat - a.toNat)) 0 a else -1 from rfl)
  obtain ⟨E, hEE⟩ : ∃ E, endOf l a = E := ⟨_, rfl⟩
  obtain ⟨R, hR⟩ : ∃ R, elseOf l a = R := ⟨_, rfl⟩
  rw [hEE] at cE hE hD
  rw [hR] at hD ⊢
  clear hr hn hEE hR
  rcases hE with hE | ⟨h0, h1, h2⟩
  · subst hE
    have hD' := hD.out
    rw [if_neg (by omega)] at hD'
    subst hD'
    clear hD
    go_enter Try.func8, Try.ntmps8
    go_wp2_with (go_at_call 7; refine cE.out.mono ?_; rintro e w' ⟨rfl, rfl⟩)
    go_ret
    exact ⟨rfl, rfl⟩
  · obtain ⟨k0, rfl⟩ : ∃ k0 : Nat, a = k0 := ⟨a.toNat, by omega⟩
    obtain ⟨e0, rfl⟩ : ∃ e0 : Nat, E = e0 := ⟨E.toNat, by omega⟩
    have hk0 : k0 < n := by omega
    obtain ⟨b, off, rfl, x, y, z, hx, hc0, _, _, hb⟩ := rd_cell (wr := w) HR.out k0 hk0 (fun _ _ => rfl)
    have hD' := hD.out
    rw [Int.toNat_natCast, Int.toNat_natCast, List.getD_eq_getElem?_getD, hx] at hD'
    simp only [Option.getD_some] at hD'
    clear hD hx
    have hd0 : decide ((e0 : Int) < 0) = false := by simp
    by_cases h4 : x = 4
    · subst h4
      rw [if_pos ⟨by omega, rfl⟩] at hD'
      have HD := hide hD'
      clear hD'
      have he : k0 ≤ e0 := by omega
      have hen : e0 < n := by omega
      clear h0 h1 h2 hk0
      go_enter Try.func8, Try.ntmps8
      go_wp2_with (go_at_call 7; refine cE.out.mono ?_; rintro e w' ⟨rfl, rfl⟩)
      go_loop [6, 7] (fun d i => ∃ (k : Nat) (dd : Int), k ≤ e0 ∧ i = .int .i64 k ∧ d = .int .i64 dd ∧ -(k : Int) ≤ dd ∧ dd ≤ k ∧ Hid (elseF ((l.drop k).take (e0 - k)) dd k = R)) (fun _ i => e0 - (intOf i).toNat)
      case atStart => exact ⟨k0, 0, by omega, rfl, rfl, by omega, by omega, hide HD.out.symm⟩
      case round =>
        obtain ⟨k, dd, hk, rfl, rfl, hd0, hd1, HF⟩ := hrel
        by_cases hlt : k < e0
        · clear hc0
          obtain ⟨b', off', hA, x, y, z, hx, hc0, _, _, _⟩ := rd_cell (wr := w) HR.out k (by omega) (fun _ _ => rfl)
          simp only [Option.some.injEq, Addr.mk.injEq, and_true] at hA
          obtain ⟨rfl, rfl⟩ := hA
          have hS := HF.out
          rw [drop_get hx, show e0 - k = (e0 - (k + 1)) + 1 from by omega, List.take_succ_cons] at hS
          simp only [elseF] at hS
          clear hx HF
          by_cases hbg : isBeg x = true
          · rw [if_pos hbg] at hS
            have HBx := hide hbg
            have HS := hide hS
            have h11 : x ≠ 11 := (beg11 hbg).1
            have h5 : x ≠ 5 := (beg11 hbg).2
            clear hbg hS
            go_wp2_with (go_at_call 11; refine (ibeg_t _ _ HBx).mono ?_; rintro e w' ⟨rfl, rfl⟩)
            go_round
            case rel => exact ⟨k + 1, dd + 1, by omega, by go_num, by go_num, by omega, by omega, hide (by have := HS.out; simpa using this)⟩
            case measure => simp [intOf]; omega
          · rw [if_neg hbg] at hS
            have HBx := hide (show isBeg x = false by simpa using hbg)
            clear hbg
            by_cases h11 : x = 11
            · subst h11
              rw [if_pos rfl] at hS
              have HS := hide hS
              clear hS
              go_wp2_with (go_at_call 11; refine (ibeg_f _ _ HBx).mono ?_; rintro e w' ⟨rfl, rfl⟩)
              go_round
              case rel => exact ⟨k + 1, dd - 1, by omega, by go_num, by go_num, by omega, by omega, hide (by have := HS.out; simpa using this)⟩
              case measure => simp [intOf]; omega
            · rw [if_neg h11] at hS
              by_cases h5 : x = 5
              · subst h5
                by_cases hd : dd = 1
                · subst hd
                  rw [if_pos ⟨rfl, rfl⟩] at hS
                  subst hS
                  go_wp2_with (go_at_call 11; refine (ibeg_f _ _ HBx).mono ?_; rintro e w' ⟨rfl, rfl⟩)
                  go_ret
                  exact ⟨rfl, rfl⟩
                · rw [if_neg (fun h => hd h.2)] at hS
                  have HS := hide hS
                  clear hS
                  go_wp2_with (go_at_call 11; refine (ibeg_f _ _ HBx).mono ?_; rintro e w' ⟨rfl, rfl⟩)
                  go_round
                  case rel => exact ⟨k + 1, dd, by omega, by go_num, rfl, by omega, by omega, hide (by have := HS.out; simpa using this)⟩
                  case measure => simp [intOf]; omega
              · rw [if_neg (fun h => h5 h.1)] at hS
                have HS := hide hS
                clear hS
                go_wp2_with (go_at_call 11; refine (ibeg_f _ _ HBx).mono ?_; rintro e w' ⟨rfl, rfl⟩)
                go_round
                case rel => exact ⟨k + 1, dd, by omega, by go_num, rfl, by omega, by omega, hide (by have := HS.out; simpa using this)⟩
                case measure => simp [intOf]; omega
        · obtain rfl : k = e0 := by omega
          have hS := HF.out
          rw [Nat.sub_self, List.take_zero] at hS
          simp only [elseF] at hS
          subst hS
          go_wp2_with fail
          go_ret
          exact ⟨rfl, rfl⟩
    · rw [if_neg (fun h => h4 h.2)] at hD'
      subst hD'
      go_enter Try.func8, Try.ntmps8
      go_wp2_with (go_at_call 7; refine cE.out.mono ?_; rintro e w' ⟨rfl, rfl⟩)
      go_ret
      exact ⟨rfl, rfl⟩
end Go.Proofs.Ytbedkcedooemdaa.Body
