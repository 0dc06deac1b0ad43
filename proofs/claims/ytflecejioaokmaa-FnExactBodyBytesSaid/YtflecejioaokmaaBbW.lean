/- The law on BodyBytes, walked. -/
import Derived.Test.YtflecejioaokmaaBbL
namespace Go.Proofs.Ytflecejioaokmaa
open Go.RowKit Go.Proofs.Ytflecejioaokmaa.Num Go.Proofs.Ytflecejioaokmaa.NumC Go.Proofs.Ytflecejioaokmaa.Mem Go.Proofs.Ytflecejioaokmaa.Shape Go.Proofs.Ytflecejioaokmaa.Leb Go.Proofs.Ytflecejioaokmaa.Bb
set_option linter.unusedVariables false
set_option maxRecDepth 100000 in
theorem fnExactBodyBytes_core (A : Option Addr) (n c N : Nat) (l : List Ins3) (F : List Int) (w : World) (hm : n ≤ maxLen) (hr : Rd w w.heap.size 3 A n (insC l))
    (cS : Hid (n ≤ 1048576 → N ≤ 11534336 ∧ ∀ (A : Option Addr) (c : Nat) (w : World), Rd w w.heap.size 3 A n (insC l) → Calls Try.prog 35 #[.slice A n c] w (Fresh 5 1 N (by8 F) w)))
    (cI : Hid (n ≤ 1048576 → ∀ (A : Option Addr) (c : Nat) (w : World), Rd w w.heap.size 3 A n (insC l) → Calls Try.prog 37 #[.slice A n c] w (Fresh 5 1 N (by8 F) w))) :
    Calls Try.prog 7 #[.slice A n c] w fun e w' => e = .returned (.bool true) ∧ Below w.heap.size w w' := by
  have hm' : (n : Int) ≤ 9223372036854775807 := by unfold maxLen at hm; omega
  have HA := hide hr
  clear hr hm
  go_enter Try.func7, Try.ntmps7
  go_wp2_with fail
  refine (szInsS_c A n c _ w (by omega) (by omega) (by omega)).mono ?_
  rintro e w0 ⟨⟨h, rfl⟩ | ⟨h, rfl⟩, hw⟩
  all_goals
    have hw' := hw.symm
    subst hw'
    clear hw
  · go_wp2_with fail
    go_ret
    exact ⟨rfl, Below.refl _ _⟩
  have HN := hide (show n ≤ 1048576 by omega)
  have hn' : (n : Int) ≤ 1048576 := by omega
  obtain ⟨left, hleft⟩ : ∃ left : Int, 1048576 - (n : Int) = left := ⟨_, rfl⟩
  have hl0 : 0 ≤ left := by omega
  rw [hleft]
  clear hleft h hm'
  obtain ⟨hN, cS2⟩ := cS.out HN.out
  have CS := hide cS2
  have CI := hide (cI.out HN.out)
  have hN' : (N : Int) ≤ 11534336 := by omega
  have HM := hide (show N ≤ 281474976710655 by omega)
  clear cS cS2 cI hN
  go_wp2_with fail
  refine (toInsS_c A n c l w HA.out HN.out).mono ?_
  rintro e w1 ⟨A1, c1, rfl, ho, hb⟩
  have O1 := hide ho
  have B1 := hide hb
  clear ho hb
  go_wp2_with fail
  refine (CS.out A1 c1 w1 O1.out.rd).mono ?_
  rintro e w2 ⟨A2, c2, rfl, ho, hb⟩
  have O2 := hide ho
  have B2 := hide (bel_step B1.out hb B1.out.size)
  clear ho hb
  go_wp2_with fail
  refine (toInsS_c A n c l w2 (HA.out.bel B2.out) HN.out).mono ?_
  rintro e w3 ⟨A3, c3, rfl, ho, hb⟩
  have O3 := hide ho
  have B3 := hide (bel_step B2.out hb B2.out.size)
  have D3 := hide hb
  clear ho hb
  go_wp2_with fail
  refine (CI.out A3 c3 w3 O3.out.rd).mono ?_
  rintro e w4 ⟨A4, c4, rfl, ho, hb⟩
  have O4 := hide ho
  have B4 := hide (bel_step B3.out hb B3.out.size)
  have D4 := hide (bel_step D3.out hb D3.out.size)
  have G4 := hide hb
  clear ho hb
  go_wp2_with fail
  refine (eqByteS_c A4 A2 N c4 c2 F w4 O4.out.rd ((O2.out.below D4.out (Nat.le_refl _)).rd) HM.out).mono ?_
  rintro e w5 ⟨rfl, m5, rfl⟩
  go_wp2_with fail
  refine (toInsS_c A n c l _ (HA.out.bel (bel_drewN B4.out m5)) HN.out).mono ?_
  rintro e w6 ⟨A6, c6, rfl, ho, hb⟩
  have O6 := hide ho
  have G6 := hide (bel_step (bel_drewN G4.out m5) hb G4.out.size)
  have E6 := hide (bel_step (bel_drewN (Below.refl w4.heap.size w4) m5) hb (Nat.le_refl _))
  clear ho hb
  go_wp2_with fail
  refine (eqInsS_c A3 A6 n c3 c6 l w6 ((O3.out.below G6.out (Nat.le_refl _)).rd) O6.out.rd HN.out).mono ?_
  rintro e w7 ⟨rfl, hb7⟩
  have G7 := hide (bel_step G6.out hb7 G6.out.size)
  have E7 := hide (bel_step E6.out hb7 E6.out.size)
  have O37 := hide (O3.out.below G7.out (Nat.le_refl _))
  have O47 := hide (O4.out.below E7.out (Nat.le_refl _))
  have D7 := hide (bel_step D4.out E7.out (bel_le D4.out (Nat.le_refl _)))
  have B7 := hide (bel_step B4.out E7.out B4.out.size)
  clear hb7
  go_wp2_with fail
  refine (markInsS_c A3 n c3 w2.heap.size (insC l) 1 w7 O37.out HN.out (by omega) (by omega)).mono ?_
  rintro e w8 ⟨rfl, hg⟩
  have D8 := hide (bel_grown D7.out hg D7.out.size O37.out.ge)
  have B8 := hide (bel_grown B7.out hg B7.out.size (fun g hh => Nat.le_trans B2.out.size (O37.out.ge g hh)))
  have O48 := hide (Ow.kept O47.out hg (blk_ne' O3.out.lt O4.out.ge))
  clear hg
  go_wp2_with fail
  refine (eqByteS_c A4 A2 N c4 c2 F w8 O48.out.rd ((O2.out.below D8.out (Nat.le_refl _)).rd) HM.out).mono ?_
  rintro e w9 ⟨rfl, m9, rfl⟩
  have D9 := hide (bel_drewN D8.out m9)
  have B9 := hide (bel_drewN B8.out m9)
  have O49 := hide (O48.out.drewN m9)
  go_wp2_with fail
  refine (markByteS_c A4 N c4 w3.heap.size (by8 F) 1 _ O49.out HM.out (by omega) (by omega)).mono ?_
  rintro e w10 ⟨rfl, ho, hg⟩
  have P10 := hide ho
  have D10 := hide (bel_grown D9.out hg D9.out.size (fun g hh => Nat.le_trans D3.out.size (O49.out.ge g hh)))
  have B10 := hide (bel_grown B9.out hg B9.out.size (fun g hh => Nat.le_trans B3.out.size (O49.out.ge g hh)))
  clear ho hg
  go_wp2_with fail
  refine (heldByteS_c A4 N c4 1 w10 P10.out.rd HM.out (by omega) (by omega)).mono ?_
  rintro e w11 ⟨rfl, rfl⟩
  go_wp2_with fail
  refine (toInsS_c A n c l w10 (HA.out.bel B10.out) HN.out).mono ?_
  rintro e w12 ⟨A12, c12, rfl, ho, hb⟩
  have O12 := hide ho
  have E12 := hide hb
  clear ho hb
  go_wp2_with fail
  refine (CI.out A12 c12 w12 O12.out.rd).mono ?_
  rintro e w13 ⟨A13, c13, rfl, ho, hb⟩
  have O13 := hide ho
  have E13 := hide (bel_step E12.out hb E12.out.size)
  have D13 := hide (bel_step D10.out E13.out D10.out.size)
  have B13 := hide (bel_step B10.out E13.out B10.out.size)
  clear ho hb
  go_wp2_with fail
  refine (eqByteS_c A13 A2 N c13 c2 F w13 O13.out.rd ((O2.out.below D13.out (Nat.le_refl _)).rd) HM.out).mono ?_
  rintro e w14 ⟨rfl, m14, rfl⟩
  go_wp2_with fail
  refine (heldByteS_c A4 N c4 1 _ (((P10.out.below E13.out (Nat.le_refl _)).drewN m14).rd) HM.out (by omega) (by omega)).mono ?_
  rintro e w15 ⟨rfl, rfl⟩
  go_wp2_with fail
  go_ret
  exact ⟨rfl, bel_drewN B13.out m14⟩
theorem fnExactBodyBytes_walk (a0 : Option Addr × Nat × Nat × List Ins3) (w : World) (w0 : a0.2.1 ≤ maxLen ∧ Rd w w.heap.size 3 a0.1 a0.2.1 (insC a0.2.2.2)) :
    Calls Try.prog 7 #[.slice a0.1 a0.2.1 a0.2.2.1] w fun e w' => e = .returned (.bool true) ∧ Below w.heap.size w w' := by
  refine fnExactBodyBytes_core _ _ _ (full a0.2.2.2).length a0.2.2.2 (full a0.2.2.2) w w0.1 w0.2 (hide fun hn => ⟨?_, fun A c w hr => sBodyBytes A _ c _ w hr hn⟩) (hide fun hn A c w hr => iBodyBytes A _ c _ w hr hn)
  have h1 := bodyB_le a0.2.2.2
  have h2 := rd_ins w0.2
  unfold full
  split
  · omega
  · simp
end Go.Proofs.Ytflecejioaokmaa
