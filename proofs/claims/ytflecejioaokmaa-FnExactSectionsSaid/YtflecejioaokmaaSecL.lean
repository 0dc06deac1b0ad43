/- The law on Sections, walked. -/
import Derived.Test.YtflecejioaokmaaSecI
import Derived.Test.YtflecejioaokmaaSecD
import Derived.Test.YtflecejioaokmaaOpen
namespace Go.Proofs.Ytflecejioaokmaa
open Go.RowKit Go.Proofs.Ytflecejioaokmaa.Num Go.Proofs.Ytflecejioaokmaa.NumC Go.Proofs.Ytflecejioaokmaa.Mem Go.Proofs.Ytflecejioaokmaa.Leb Go.Proofs.Ytflecejioaokmaa.Sec
set_option linter.unusedVariables false
def marksI (k : Int) (n : Nat) : List Int := (List.range n).map fun j : Nat => k + (j : Int)
theorem marksI_len (k : Int) (n : Nat) : (marksI k n).length = n := by simp [marksI]
theorem marksI_succ (k : Int) (n : Nat) : marksI k (n + 1) = marksI k n ++ [k + (n : Int)] := by simp [marksI, List.range_succ]
theorem markI_step (k : Int) (j n : Nat) (xs : List Value) (h : xs.length = n) (hj : j < n) : (in64 (marksI k j) ++ xs.drop j).set j (.int .i64 (k + (j : Int))) = in64 (marksI k (j + 1)) ++ xs.drop (j + 1) := by
  have hl : (in64 (marksI k j)).length = j := by simp [in64, marksI_len]
  rw [List.set_append, if_neg (by omega), hl, Nat.sub_self, List.drop_eq_getElem_cons (by omega), List.set_cons_zero, marksI_succ]
  simp [in64]
theorem marksI_get (k : Int) (n j : Nat) (h : j < (marksI k n).length) : (marksI k n)[j] = k + j := by simp [marksI]
theorem markIntS_c (A : Option Addr) (n c base : Nat) (xs : List Value) (k : Int) (w : World) (ho : Ow w base 3 1 A n c xs) (hn : n ≤ 1048576) (h0 : 0 ≤ k) (h1 : k ≤ 281474976710655) :
    Calls Try.prog 24 #[.slice A n c, .int .i64 k] w fun e w' => e = .returned (.int .i64 (k + n)) ∧ Ow w' base 3 1 A n c (in64 (marksI k n)) ∧ w.grownBy w' (blk A) := by
  have hn' : (n : Int) ≤ 1048576 := by omega
  have HO := hide ho
  clear ho hn
  have HL := hide (show xs.length = n by have := HO.out.1; omega)
  go_enter Try.func24, Try.ntmps24
  go_wp2_with fail
  go_loopw [1, 5] (fun s i wr => ∃ j : Nat, j ≤ n ∧ i = .int .i64 j ∧ s = .int .i64 (k + j) ∧ Ow wr base 3 1 A n c (in64 (marksI k j) ++ xs.drop j) ∧ w.grownBy wr (blk A)) (fun _ i _ => n - (intOf i).toNat)
  case atStart => exact ⟨0, Nat.zero_le _, rfl, by go_num, by simpa [marksI, in64] using HO.out, World.grownBy.refl _ _⟩
  case round =>
    obtain ⟨j, hj, rfl, rfl, hown, hg⟩ := hrel
    have H3 := hide hown
    have H2 := hide hg
    clear hown hg
    by_cases hlt : j < n
    · obtain ⟨g, rfl, _, _⟩ := H3.out.form (by omega)
      have hst := World.ownsRow.stored H3.out j (.int .i64 (k + (j : Int)))
      have hf0 : wr.frozen? ⟨g, j, none⟩ = false := World.ownsRow.frozenAt H3.out j
      obtain ⟨u, hu⟩ : ∃ u, wr.cell? ⟨g, j, none⟩ = some u := by
        have hx0 : wr.cell? ⟨g, j, none⟩ = _ := World.ownsRow.cellAt H3.out j (by omega)
        rw [hx0]
        exact ⟨_, List.getElem?_eq_getElem (by have := H3.out.1; omega)⟩
      have H1 := hide hst
      clear hst
      go_wp2_with fail
      go_roundw
      case rel =>
        refine ⟨j + 1, by omega, by go_num, by go_num, ?_, grown_trans H2.out H1.out.2⟩
        have h4 := H1.out.1
        rw [markI_step k j n xs HL.out hlt] at h4
        exact h4
      case measure => simp [intOf]; omega
    · obtain rfl : j = n := by omega
      go_wp2_with fail
      go_ret
      refine ⟨rfl, ?_, H2.out⟩
      have h5 := H3.out
      have h6 := HL.out
      rw [List.drop_of_length_le (by omega), List.append_nil] at h5
      exact h5
theorem heldIntS_c (A : Option Addr) (n c : Nat) (k : Int) (w : World) (hr : Rd w w.heap.size 1 A n (in64 (marksI k n))) (hn : n ≤ 1048576) (h0 : 0 ≤ k) (h1 : k ≤ 281474976710655) :
    Calls Try.prog 25 #[.slice A n c, .int .i64 k] w fun e w' => e = .returned (.int .i64 (k + n)) ∧ w = w' := by
  have hn' : (n : Int) ≤ 1048576 := by omega
  have HR := hide hr
  clear hr hn
  go_enter Try.func25, Try.ntmps25
  go_wp2_with fail
  go_loop [1, 5] (fun s i => ∃ j : Nat, j ≤ n ∧ i = .int .i64 j ∧ s = .int .i64 (k + j)) (fun _ i => n - (intOf i).toNat)
  case atStart => exact ⟨0, Nat.zero_le _, rfl, by go_num⟩
  case round =>
    obtain ⟨j, hj, rfl, rfl⟩ := hrel
    by_cases hlt : j < n
    · obtain ⟨b, off, rfl, _, hc⟩ := HR.out.2 (by omega)
      have hl : j < (marksI k n).length := by rw [marksI_len]; exact hlt
      have h2 := hc j _ (in64_get hl)
      rw [marksI_get] at h2
      clear hc
      go_wp2_with fail
      go_round
      case rel => exact ⟨j + 1, by omega, by go_num, by go_num⟩
      case measure => simp [intOf]; omega
    · obtain rfl : j = n := by omega
      go_wp2_with fail
      go_ret
      exact ⟨rfl, rfl⟩
theorem ow_cap {w : World} {base e size n c : Nat} {A : Option Addr} {xs : List Value} (h : Ow w base e size A n c xs) : n ≤ c := by
  rcases h.2 with ⟨hv, h0⟩ | ⟨g, cap, cur, hv, _, _, hc, _⟩
  · omega
  · injection hv with _ _ h3
    omega
set_option maxRecDepth 100000 in
theorem sSections (A : Option Addr) (n c : Nat) (bs : List Int) (w : World) (hr : Rd w w.heap.size 1 A n (by8 bs)) (hn : n ≤ 1048576) (hc : n ≤ c) (hx : ∀ x ∈ bs, 0 ≤ x ∧ x ≤ 255) :
    Calls Try.prog 18 #[.slice A n c] w (SecR bs w) := by
  have HC := hide (l04Cut_c A n c bs w hr hn hc hx)
  clear hr hn hc hx
  go_enter Try.func18, Try.ntmps18
  go_wp2_with fail
  refine HC.out.mono ?_
  rintro e w1 ⟨hb, ⟨hs, q, hq, rfl⟩ | ⟨l, B, R, N, cb, cr, hs, hl, hp, rfl, ho⟩⟩
  · have HS := hide hs
    have HB := hide hb
    clear hs hb HC
    have hq0 : (q == 0) = false := by simpa using hq
    go_wp2_with fail
    go_ret2
    exact ⟨HB.out, [], false, none, 0, 0, by unfold secV; rw [HS.out], rfl, by omega, rfl, World.ownsRow_nil _ _ _ _⟩
  · have HS := hide hs
    have HB := hide hb
    have HO := hide ho
    have HL := hide hl
    clear hs hb ho hl HC
    go_wp2_with fail
    go_ret2
    exact ⟨HB.out, l, true, B, N, cb, by unfold secV; rw [HS.out], HL.out, hp, rfl, HO.out⟩
/-- what Sections hands back, named ahead -/
def SecF (F : List Int) (t : Bool) (N : Nat) (w : World) (e : Ending) (w' : World) : Prop :=
  ∃ (A : Option Addr) (c : Nat), e = .returned (.tuple #[.slice A N c, .bool t]) ∧ Ow w' w.heap.size 3 1 A N c (in64 F) ∧ Below w.heap.size w w'
theorem secF_of {bs F : List Int} {t : Bool} {N : Nat} {w w' : World} {e : Ending} (hF : secV bs = (F, t)) (hN : F.length = N) (h : SecR bs w e w') : SecF F t N w e w' := by
  obtain ⟨hb, l, t', A, N', c, h1, h2, _, rfl, ho⟩ := h
  rw [hF] at h1
  injection h1 with h3 h4
  subst h3 h4
  obtain rfl : N = N' := by omega
  exact ⟨A, c, rfl, ho, hb⟩
theorem cutF_le (bs : List Int) : ∀ (f a : Nat) (last : Int) (acc l : List Int), (acc.length : Int) ≤ last → last ≤ 11 → cutF f bs a last acc = some l → l.length ≤ 11
  | 0, a, last, acc, l, h1, h2, h => by
    injection h with h
    subst h
    omega
  | f + 1, a, last, acc, l, h1, h2, h => by
    unfold cutF at h
    split at h
    · injection h with h
      subst h
      omega
    · simp only at h
      split at h
      · cases h
      · rename_i hb
        have hin : bs.getD a 0 ∈ ids8 := Classical.not_not.1 fun h3 => hb (.inl h3)
        have hlt : last < bs.getD a 0 := by
          rcases Int.lt_or_le last (bs.getD a 0) with h3 | h3
          · exact h3
          · exact absurd (.inr (.inl h3)) hb
        have := ids_le hin
        exact cutF_le bs f _ _ _ l (by rw [List.length_append]; show ((acc.length + 1 : Nat) : Int) ≤ _; omega) this.2 h
theorem sections_le {bs F : List Int} {t : Bool} (h : secV bs = (F, t)) : F.length ≤ 11 := by
  unfold secV sections at h
  split at h
  · rename_i l hs
    injection h with h1 h2
    subst h1
    split at hs
    · cases hs
    · exact cutF_le bs _ _ _ _ _ (by simp) (by omega) hs
  · injection h with h1 h2
    subst h1
    simp
set_option maxRecDepth 100000 in
theorem fnExactSections_core (A : Option Addr) (n c N : Nat) (t : Bool) (bs F : List Int) (w : World) (hr : Rd w w.heap.size 1 A n (by8 bs)) (hn1 : n ≤ 1048576) (hN : N ≤ 11)
    (cS : Hid (∀ (A : Option Addr) (c : Nat) (w : World), n ≤ c → Rd w w.heap.size 1 A n (by8 bs) → Calls Try.prog 18 #[.slice A n c] w (SecF F t N w)))
    (cI : Hid (∀ (A : Option Addr) (c : Nat) (w : World), n ≤ c → Rd w w.heap.size 1 A n (by8 bs) → Calls Try.prog 20 #[.slice A n c] w (SecF F t N w))) :
    Calls Try.prog 4 #[.slice A n c] w fun e w' => e = .returned (.bool true) ∧ Below w.heap.size w w' := by
  have hn' : (n : Int) ≤ 1048576 := by omega
  have hN' : (N : Int) ≤ 11 := by omega
  have HA := hide hr
  have HN := hide (show n ≤ 281474976710655 by omega)
  have HM := hide (show N ≤ 1048576 by omega)
  clear hr hn1 hN
  go_enter Try.func4, Try.ntmps4
  go_wp2_with fail
  refine (toByteS_c A n c bs w HA.out HN.out).mono ?_
  rintro e w1 ⟨A1, c1, rfl, ho, hb⟩
  have O1 := hide ho
  have B1 := hide hb
  clear ho hb
  go_wp2_with fail
  refine (cS.out A1 c1 w1 (ow_cap O1.out) O1.out.rd).mono ?_
  rintro e w2 ⟨A2, c2, rfl, ho, hb⟩
  have O2 := hide ho
  have B2 := hide (bel_step B1.out hb B1.out.size)
  clear ho hb
  go_wp2_with fail
  refine (toByteS_c A n c bs w2 (HA.out.bel B2.out) HN.out).mono ?_
  rintro e w3 ⟨A3, c3, rfl, ho, hb⟩
  have O3 := hide ho
  have B3 := hide (bel_step B2.out hb B2.out.size)
  have D3 := hide hb
  clear ho hb
  go_wp2_with fail
  refine (cI.out A3 c3 w3 (ow_cap O3.out) O3.out.rd).mono ?_
  rintro e w4 ⟨A4, c4, rfl, ho, hb⟩
  have O4 := hide ho
  have B4 := hide (bel_step B3.out hb B3.out.size)
  have D4 := hide (bel_step D3.out hb D3.out.size)
  have G4 := hide hb
  clear ho hb
  go_wp2_with fail
  refine (eqIntS_c A4 A2 N c4 c2 F w4 O4.out.rd ((O2.out.below D4.out (Nat.le_refl _)).rd) HM.out).mono ?_
  rintro e w5 ⟨rfl, m5, rfl⟩
  go_wp2_with fail
  refine (toByteS_c A n c bs _ (HA.out.bel (bel_drewN B4.out m5)) HN.out).mono ?_
  rintro e w6 ⟨A6, c6, rfl, ho, hb⟩
  have O6 := hide ho
  have G6 := hide (bel_step (bel_drewN G4.out m5) hb G4.out.size)
  have E6 := hide (bel_step (bel_drewN (Below.refl w4.heap.size w4) m5) hb (Nat.le_refl _))
  clear ho hb
  go_wp2_with fail
  refine (eqByteS_c A3 A6 n c3 c6 bs w6 ((O3.out.below G6.out (Nat.le_refl _)).rd) O6.out.rd HN.out).mono ?_
  rintro e w7 ⟨rfl, m7, rfl⟩
  have O37 := hide ((O3.out.below G6.out (Nat.le_refl _)).drewN m7)
  have O47 := hide ((O4.out.below E6.out (Nat.le_refl _)).drewN m7)
  have D7 := hide (bel_drewN (bel_step D4.out E6.out (bel_le D4.out (Nat.le_refl _))) m7)
  have B7 := hide (bel_drewN (bel_step B4.out E6.out B4.out.size) m7)
  go_wp2_with fail
  refine (markByteS_c A3 n c3 w2.heap.size (by8 bs) 1 _ O37.out HN.out (by omega) (by omega)).mono ?_
  rintro e w8 ⟨rfl, ho, hg⟩
  have D8 := hide (bel_grown D7.out hg D7.out.size O37.out.ge)
  have B8 := hide (bel_grown B7.out hg B7.out.size (fun g hh => Nat.le_trans B2.out.size (O37.out.ge g hh)))
  have O48 := hide (Ow.kept O47.out hg (blk_ne' O3.out.lt O4.out.ge))
  clear ho hg
  go_wp2_with fail
  refine (eqIntS_c A4 A2 N c4 c2 F w8 O48.out.rd ((O2.out.below D8.out (Nat.le_refl _)).rd) HM.out).mono ?_
  rintro e w9 ⟨rfl, m9, rfl⟩
  have D9 := hide (bel_drewN D8.out m9)
  have B9 := hide (bel_drewN B8.out m9)
  have O49 := hide (O48.out.drewN m9)
  go_wp2_with fail
  refine (markIntS_c A4 N c4 w3.heap.size (in64 F) 1 _ O49.out HM.out (by omega) (by omega)).mono ?_
  rintro e w10 ⟨rfl, ho, hg⟩
  have P10 := hide ho
  have D10 := hide (bel_grown D9.out hg D9.out.size (fun g hh => Nat.le_trans D3.out.size (O49.out.ge g hh)))
  have B10 := hide (bel_grown B9.out hg B9.out.size (fun g hh => Nat.le_trans B3.out.size (O49.out.ge g hh)))
  clear ho hg
  go_wp2_with fail
  refine (heldIntS_c A4 N c4 1 w10 P10.out.rd HM.out (by omega) (by omega)).mono ?_
  rintro e w11 ⟨rfl, rfl⟩
  go_wp2_with fail
  refine (toByteS_c A n c bs w10 (HA.out.bel B10.out) HN.out).mono ?_
  rintro e w12 ⟨A12, c12, rfl, ho, hb⟩
  have O12 := hide ho
  have E12 := hide hb
  clear ho hb
  go_wp2_with fail
  refine (cI.out A12 c12 w12 (ow_cap O12.out) O12.out.rd).mono ?_
  rintro e w13 ⟨A13, c13, rfl, ho, hb⟩
  have O13 := hide ho
  have E13 := hide (bel_step E12.out hb E12.out.size)
  have D13 := hide (bel_step D10.out E13.out D10.out.size)
  have B13 := hide (bel_step B10.out E13.out B10.out.size)
  clear ho hb
  go_wp2_with fail
  refine (eqIntS_c A13 A2 N c13 c2 F w13 O13.out.rd ((O2.out.below D13.out (Nat.le_refl _)).rd) HM.out).mono ?_
  rintro e w14 ⟨rfl, m14, rfl⟩
  go_wp2_with fail
  refine (heldIntS_c A4 N c4 1 _ (((P10.out.below E13.out (Nat.le_refl _)).drewN m14).rd) HM.out (by omega) (by omega)).mono ?_
  rintro e w15 ⟨rfl, rfl⟩
  go_wp2_with fail
  go_ret
  exact ⟨rfl, bel_drewN B13.out m14⟩
theorem fnExactSections_long (A : Option Addr) (n c : Nat) (w : World) (hn : 1048576 < n) (hm : n ≤ 9223372036854775807) : Calls Try.prog 4 #[.slice A n c] w fun e w' => e = .returned (.bool true) ∧ Below w.heap.size w w' := by
  have hn' : (1048576 : Int) < n := by omega
  clear hn
  go_enter Try.func4, Try.ntmps4
  go_wp2_with fail
  go_ret
  exact ⟨rfl, Below.refl _ _⟩
theorem fnExactSections_walk (A0 : Option Addr) (n0 c0 : Nat) (bs0 : List Int) (w : World) (w0 : IsNums .u8 w A0 n0 c0 bs0) : Calls Try.prog 4 #[.slice A0 n0 c0] w fun e w' => e = .returned (.bool true) ∧ Below w.heap.size w w' := by
  have hm : n0 ≤ 9223372036854775807 := by have := w0.max; have := w0.le; unfold maxLen at *; omega
  by_cases hn : 1048576 < n0
  · exact fnExactSections_long A0 n0 c0 w hn hm
  have hx : ∀ x ∈ bs0, 0 ≤ x ∧ x ≤ 255 := fun x h => u8_of_wf (w0.wf x h)
  obtain ⟨F, t, hF⟩ : ∃ F t, secV bs0 = (F, t) := ⟨_, _, rfl⟩
  by_cases hl : F.length ≤ 11
  · exact fnExactSections_core A0 n0 c0 F.length t bs0 F w w0.rd (by omega) hl
      (hide fun A c w hc hr => (sSections A n0 c bs0 w hr (by omega) hc hx).mono fun e w' h => secF_of hF rfl h)
      (hide fun A c w hc hr => (iSections A n0 c bs0 w hr (by omega) hc hx).mono fun e w' h => secF_of hF rfl h)
  · exact absurd (sections_le hF) hl
end Go.Proofs.Ytflecejioaokmaa
