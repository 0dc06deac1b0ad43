/- Modules of a right form, in the program: a contract. -/
import Derived.Test.YtiinkfejdnfonaaGreatDoorFmC
namespace Go.Proofs.YtiinkfejdnfonaaGreatDoor.Mo
open Go.RowKit Go.Proofs.YtiinkfejdnfonaaGreatDoor.Num Go.Proofs.YtiinkfejdnfonaaGreatDoor.NumC Go.Proofs.YtiinkfejdnfonaaGreatDoor.Mem Go.Proofs.YtiinkfejdnfonaaGreatDoor.Shape Go.Proofs.YtiinkfejdnfonaaGreatDoor.Utf Go.Proofs.YtiinkfejdnfonaaGreatDoor.Ops Go.Proofs.YtiinkfejdnfonaaGreatDoor.Body
set_option linter.unusedVariables false
set_option maxRecDepth 100000 in
set_option maxHeartbeats 8000000 in
theorem iFormOk (m : MV) (w : World) (hR : m.Reads w) (hX : m.Long 1048576) (hT : UTab w) :
    Calls Tryz.prog 38 #[m.v] w fun e w' => e = .returned (.bool (formR m.pl)) ∧ Below w.heap.size w w' := by
  have HQ := hide (formQ_iff m w hR)
  obtain ⟨R, hRR⟩ : ∃ R, formR m.pl = R := ⟨_, rfl⟩
  rw [hRR] at HQ ⊢
  clear hRR
  obtain ⟨⟨S, Sn, Sc⟩, ⟨I, In, Ic⟩, ⟨F, Fn, Fc⟩, pg, mo, ⟨G, Gn, Gc⟩, ⟨E, En, Ec⟩, ⟨D, Dn, Dc⟩, sigs, imps, funs, glos, exps, dats⟩ := m
  have HX := hide hX
  have B0 := hide ((Below.refl w.heap.size w).alloc (Nat.le_refl _) (.cells #[.slice S Sn Sc, .slice I In Ic, .slice F Fn Fc, .int .i64 pg, .int .i64 mo, .slice G Gn Gc, .slice E En Ec, .slice D Dn Dc] 41))
  have HR0 := hide (hR.bel B0.out)
  have HK := hide (Blk.new w #[.slice S Sn Sc, .slice I In Ic, .slice F Fn Fc, .int .i64 pg, .int .i64 mo, .slice G Gn Gc, .slice E En Ec, .slice D Dn Dc] 41)
  have HT0 := hide (utab_bel hT B0.out)
  have hSn : (Sn : Int) ≤ 1048576 := hX.S
  have hIn : (In : Int) ≤ 1048576 := hX.I
  have hFn : (Fn : Int) ≤ 1048576 := hX.F
  have hGn : (Gn : Int) ≤ 1048576 := hX.G
  have hEn : (En : Int) ≤ 1048576 := hX.E
  have hDn : (Dn : Int) ≤ 1048576 := hX.D
  have HRw := hide hR
  have HTw := hide hT
  clear hR hX hT
  change Calls Tryz.prog 38 #[.agg #[.slice S Sn Sc, .slice I In Ic, .slice F Fn Fc, .int .i64 pg, .int .i64 mo, .slice G Gn Gc, .slice E En Ec, .slice D Dn Dc]] w _
  by_cases ht0 : 30 < (Sn : Int)
  · have hR : R = false := no_of HQ (fun h => by have := h.P.a1; simp only [] at this; omega)
    subst hR
    go_enter Tryz.func38, Tryz.ntmps38
    go_wp2_with fail
    go_ret
    exact ⟨rfl, B0.out⟩
  have hu0 : (Sn : Int) ≤ 30 := by omega
  clear ht0
  by_cases ht1 : 60 < (In : Int) + Fn
  · have hR : R = false := no_of HQ (fun h => by have := h.P.a2; simp only [] at this; omega)
    subst hR
    go_enter Tryz.func38, Tryz.ntmps38
    go_wp2_with fail
    go_ret
    exact ⟨rfl, B0.out⟩
  have hu1 : (In : Int) + Fn ≤ 60 := by omega
  clear ht1
  by_cases ht2 : 30 < (Gn : Int)
  · have hR : R = false := no_of HQ (fun h => by have := h.a3; simp only [] at this; omega)
    subst hR
    go_enter Tryz.func38, Tryz.ntmps38
    go_wp2_with fail
    go_ret
    exact ⟨rfl, B0.out⟩
  have hu2 : (Gn : Int) ≤ 30 := by omega
  clear ht2
  by_cases ht3 : 60 < (En : Int)
  · have hR : R = false := no_of HQ (fun h => by have := h.a4; simp only [] at this; omega)
    subst hR
    go_enter Tryz.func38, Tryz.ntmps38
    go_wp2_with fail
    go_ret
    exact ⟨rfl, B0.out⟩
  have hu3 : (En : Int) ≤ 60 := by omega
  clear ht3
  by_cases ht4 : 20 < (Dn : Int)
  · have hR : R = false := no_of HQ (fun h => by have := h.a5; simp only [] at this; omega)
    subst hR
    go_enter Tryz.func38, Tryz.ntmps38
    go_wp2_with fail
    go_ret
    exact ⟨rfl, B0.out⟩
  have hu4 : (Dn : Int) ≤ 20 := by omega
  clear ht4
  have HA1 := hide hu0
  have HA2 := hide hu1
  have HA3 := hide hu2
  have HA4 := hide hu3
  have HA5 := hide hu4
  by_cases hp : -1 ≤ pg ∧ pg ≤ 2
  rotate_left
  · skip
    have hR : R = false := no_of HQ (fun h => by have := h.pg; simp only [pagesR, inR, Bool.and_eq_true, decide_eq_true_eq] at this; omega)
    subst hR
    skip
    go_enter Tryz.func38, Tryz.ntmps38
    go_wp2_with fail
    refine (within_f pg (-1) 2 _ (by omega)).mono ?_
    rintro e v ⟨rfl, rfl⟩
    go_wp2_with fail
    go_ret
    exact ⟨rfl, B0.out⟩
  by_cases hm : mo = -1 ∨ (pg ≠ -1 ∧ pg ≤ mo ∧ mo ≤ 65536)
  rotate_left
  · have hmo : ¬ mo = -1 := by omega
    have hmb : (mo == -1) = false := by simpa using hmo
    by_cases hpp : pg = -1
    · subst hpp
      have hR : R = false := no_of HQ (fun h => by have := h.pg; simp only [pagesR, inR, Bool.and_eq_true, decide_eq_true_eq] at this; omega)
      subst hR
      skip
      go_enter Tryz.func38, Tryz.ntmps38
      go_wp2_with fail
      refine (within_t (-1) (-1) 2 _ (by omega) (by omega)).mono ?_
      rintro e v ⟨rfl, rfl⟩
      go_wp2_with fail
      go_ret
      exact ⟨rfl, B0.out⟩
    · have hpb : (pg == -1) = false := by simpa using hpp
      have hR : R = false := no_of HQ (fun h => by have := h.pg; simp only [pagesR, inR, Bool.and_eq_true, decide_eq_true_eq] at this; omega)
      subst hR
      skip
      go_enter Tryz.func38, Tryz.ntmps38
      go_wp2_with fail
      refine (within_t pg (-1) 2 _ hp.1 hp.2).mono ?_
      rintro e v ⟨rfl, rfl⟩
      go_wp2_with fail
      refine (within_f mo pg 65536 _ (by omega)).mono ?_
      rintro e v ⟨rfl, rfl⟩
      go_wp2_with fail
      go_ret
      exact ⟨rfl, B0.out⟩
  have HPG := hide (show pagesR pg mo = true by unfold pagesR inR; rw [decide_eq_true hp, decide_eq_true hm]; rfl)
  go_enter Tryz.func38, Tryz.ntmps38
  go_upto_region 3 with fail
  go_cut [68] from 47 to 68 (fun c wx => c = .bool false ∧ Hid (Below w.heap.size w wx) ∧ Hid (Blk wx w.heap.size #[.slice S Sn Sc, .slice I In Ic, .slice F Fn Fc, .int .i64 pg, .int .i64 mo, .slice G Gn Gc, .slice E En Ec, .slice D Dn Dc] 41))
  case first =>
    rcases hm with hm | ⟨hpp, hl, hh⟩
    · subst hm
      go_wp2_with fail
      refine (within_t pg (-1) 2 _ hp.1 hp.2).mono ?_
      rintro e v ⟨rfl, rfl⟩
      go_wp2_with fail
      go_meet
      exact ⟨rfl, B0, HK⟩
    · have hpb : (pg == -1) = false := by simpa using hpp
      have hmo : ¬ mo = -1 := by omega
      have hmb : (mo == -1) = false := by simpa using hmo
      go_wp2_with fail
      refine (within_t pg (-1) 2 _ hp.1 hp.2).mono ?_
      rintro e v ⟨rfl, rfl⟩
      go_wp2_with fail
      refine (within_t mo pg 65536 _ hl hh).mono ?_
      rintro e v ⟨rfl, rfl⟩
      go_wp2_with fail
      go_meet
      exact ⟨rfl, B0, HK⟩
  case rest =>
    obtain ⟨rfl, HBc, HKc⟩ := hcut
    have HRc := hide (HRw.out.bel HBc.out)
    have HTc := hide (utab_bel HTw.out HBc.out)
    have p0 : wc.cell? ⟨w.heap.size, 0, none⟩ = some (.slice S Sn Sc) := HKc.out.cell 0
    go_wp2_with fail
    clear p0 HK B0 HR0 HT0
    have HDst := hide (Below.refl wc.heap.size wc)
    go_loopw [72] (fun i wr => ∃ k : Nat, k ≤ Sn ∧ i = .int .i64 k ∧ Hid (∀ j x, j < k → sigs[j]? = some x → sigR x = true) ∧ Hid (Below wc.heap.size wc wr)) (fun i _ => Sn - (intOf i).toNat)
    case atStart => exact ⟨0, Nat.zero_le _, rfl, hide (fun j x hj => by omega), HDst⟩
    case round =>
      obtain ⟨k, hk, rfl, HO, HD⟩ := hrel
      have p0 : wr.cell? ⟨w.heap.size, 0, none⟩ = some (.slice S Sn Sc) := (HKc.out.bel HD.out).cell 0
      have hz : w.heap.size < wr.heap.size := Nat.lt_of_lt_of_le HKc.out.lt HD.out.size
      by_cases hlt : k < Sn
      · obtain ⟨b, off, x, rfl, hx, hbg, hcell⟩ := rd_get (wr := wr) sigL (by omega) HRc.out.S k hlt (fun p hp => HD.out.cell hp)
        have HXk := hide hx
        obtain ⟨p, r⟩ := x
        have hc0 : wr.cell? ⟨b, off + k * 2, none⟩ = some (.int .i64 p) := hcell 0 _ rfl
        have hc1 : wr.cell? ⟨b, off + k * 2 + 1, none⟩ = some (.int .i64 r) := hcell 1 _ rfl
        have hi0 : (0 : Int) ≤ k := by omega
        have hi1 : (k : Int) < Sn := by omega
        have HDa := hide (HD.out.alloc HD.out.size (.cells #[.int .i64 p, .int .i64 r] 77))
        have HEa := hide (Blk.new wr #[.int .i64 p, .int .i64 r] 77)
        have pa : (wr.alloc (.cells #[.int .i64 p, .int .i64 r] 77)).cell? ⟨w.heap.size, 0, none⟩ = some (.slice (some ⟨b, off, none⟩) Sn Sc) := (HKc.out.bel HDa.out).cell 0
        clear hcell hx
        obtain ⟨q0, hq0⟩ : ∃ q, inR 0 60 p = q := ⟨_, rfl⟩
        have C0 := hide (fun w => within_b p 0 60 w)
        rw [hq0] at C0
        have Q0 := hide hq0
        clear hq0
        cases q0
        · skip
          have hR : R = false := by
            refine no_of HQ (fun h => ?_)
            have h1 := h.P.sg _ (List.mem_of_getElem? HXk.out)
            have h2 : sigR (p, r) = false := by simp [sigR, Q0.out]
            change sigR (p, r) = true at h1
            rw [h2] at h1
            cases h1
          subst hR
          go_wp2_with fail
          refine (C0.out _).mono ?_
          rintro e v ⟨rfl, rfl⟩
          go_wp2_with fail
          go_ret
          exact ⟨rfl, HBc.out.trans (Below.mono HDa.out HBc.out.size)⟩
        · skip
          obtain ⟨q1, hq1⟩ : ∃ q, inR 0 1 r = q := ⟨_, rfl⟩
          have C1 := hide (fun w => within_b r 0 1 w)
          rw [hq1] at C1
          have Q1 := hide hq1
          clear hq1
          cases q1
          · skip
            have hR : R = false := by
              refine no_of HQ (fun h => ?_)
              have h1 := h.P.sg _ (List.mem_of_getElem? HXk.out)
              have h2 : sigR (p, r) = false := by simp [sigR, Q0.out, Q1.out]
              change sigR (p, r) = true at h1
              rw [h2] at h1
              cases h1
            subst hR
            go_wp2_with fail
            refine (C0.out _).mono ?_
            rintro e v ⟨rfl, rfl⟩
            go_wp2_with fail
            refine (C1.out _).mono ?_
            rintro e v ⟨rfl, rfl⟩
            go_wp2_with fail
            go_ret
            exact ⟨rfl, HBc.out.trans (Below.mono HDa.out HBc.out.size)⟩
          · skip
            have HO1 := hide (ok_step (p := sigR) HO.out HXk.out (show sigR (p, r) = true by simp [sigR, Q0.out, Q1.out]))
            go_wp2_with fail
            refine (C0.out _).mono ?_
            rintro e v ⟨rfl, rfl⟩
            go_wp2_with fail
            refine (C1.out _).mono ?_
            rintro e v ⟨rfl, rfl⟩
            go_wp2_with fail
            go_roundw
            case rel =>
              first
              | exact ⟨k + 1, by omega, by go_num, HO1, HDa⟩
            case measure => simp [intOf]; omega
      · obtain rfl : Sn = k := by omega
        have HAS := hide (ok_all (p := sigR) (rd_len sigL (by omega) HRc.out.S) HO.out)
        have HDS := HD
        have hkn : decide ((Sn : Int) < Sn) = false := decide_eq_false (by omega)
        clear HD HO hk p0
        have p1 : wr.cell? ⟨w.heap.size, 1, none⟩ = some (.slice I In Ic) := (HKc.out.bel HDS.out).cell 1
        go_wp2_with fail
        clear hkn
        go_loopw [90] (fun i wr => ∃ k : Nat, k ≤ In ∧ i = .int .i64 k ∧ Hid (∀ j x, j < k → imps[j]? = some x → impR Sn x = true) ∧ Hid (Below wc.heap.size wc wr)) (fun i _ => In - (intOf i).toNat)
        case atStart => exact ⟨0, Nat.zero_le _, rfl, hide (fun j x hj => by omega), HDS⟩
        case round =>
          obtain ⟨k, hk, rfl, HO, HD⟩ := hrel
          have p0 : wr.cell? ⟨w.heap.size, 0, none⟩ = some (.slice S Sn Sc) := (HKc.out.bel HD.out).cell 0
          have hz : w.heap.size < wr.heap.size := Nat.lt_of_lt_of_le HKc.out.lt HD.out.size
          by_cases hlt : k < In
          · obtain ⟨b, off, x, rfl, hx, hbg, hcell⟩ := rd_get (wr := wr) impL (by omega) HRc.out.I k hlt (fun p hp => HD.out.cell hp)
            have HXk := hide hx
            have HXs := hide (HX.out.IS x (List.mem_of_getElem? hx))
            obtain ⟨a, c, i⟩ := x
            have hc0 : wr.cell? ⟨b, off + k * 3, none⟩ = some (.string a) := hcell 0 _ rfl
            have hc1 : wr.cell? ⟨b, off + k * 3 + 1, none⟩ = some (.string c) := hcell 1 _ rfl
            have hc2 : wr.cell? ⟨b, off + k * 3 + 2, none⟩ = some (.int .i64 i) := hcell 2 _ rfl
            have hi0 : (0 : Int) ≤ k := by omega
            have hi1 : (k : Int) < In := by omega
            have HDa := hide (HD.out.alloc HD.out.size (.cells #[.string a, .string c, .int .i64 i] 79))
            have HEa := hide (Blk.new wr #[.string a, .string c, .int .i64 i] 79)
            have pa : (wr.alloc (.cells #[.string a, .string c, .int .i64 i] 79)).cell? ⟨w.heap.size, 0, none⟩ = some (.slice S Sn Sc) := (HKc.out.bel HDa.out).cell 0
            clear hcell hx
            obtain ⟨q0, hq0⟩ : ∃ q, inR 0 ((Sn : Int) - 1) i = q := ⟨_, rfl⟩
            have C0 := hide (fun w => within_b i 0 ((Sn : Int) - 1) w)
            rw [hq0] at C0
            have Q0 := hide hq0
            clear hq0
            cases q0
            · skip
              have hR : R = false := by
                refine no_of HQ (fun h => ?_)
                have h1 := h.P.im _ (List.mem_of_getElem? HXk.out)
                have h2 : impR Sn (a, c, i) = false := by simp [impR, Q0.out]
                change impR Sn (a, c, i) = true at h1
                rw [h2] at h1
                cases h1
              subst hR
              go_wp2_with fail
              refine (C0.out _).mono ?_
              rintro e v ⟨rfl, rfl⟩
              go_wp2_with fail
              go_ret
              exact ⟨rfl, HBc.out.trans (Below.mono HDa.out HBc.out.size)⟩
            · skip
              obtain ⟨q1, hq1⟩ : ∃ q, nameR a = q := ⟨_, rfl⟩
              have C1 := hide (fun w h => iName a w HXs.out.1 h)
              rw [hq1] at C1
              have Q1 := hide hq1
              clear hq1
              cases q1
              · skip
                have hR : R = false := by
                  refine no_of HQ (fun h => ?_)
                  have h1 := h.P.im _ (List.mem_of_getElem? HXk.out)
                  have h2 : impR Sn (a, c, i) = false := by simp [impR, Q0.out, Q1.out]
                  change impR Sn (a, c, i) = true at h1
                  rw [h2] at h1
                  cases h1
                subst hR
                go_wp2_with fail
                refine (C0.out _).mono ?_
                rintro e v ⟨rfl, rfl⟩
                go_wp2_with fail
                refine (C1.out _ (utab_bel HTc.out HDa.out)).mono ?_
                rintro e v1 ⟨rfl, hb⟩
                have HDv1 := hide (bel_step HDa.out hb HDa.out.size)
                have HEv1 := hide (HEa.out.bel hb)
                have p01 : v1.cell? ⟨w.heap.size, 0, none⟩ = some (.slice S Sn Sc) := (HKc.out.bel HDv1.out).cell 0
                have e10 : v1.cell? ⟨wr.heap.size, 0, none⟩ = some (.string a) := HEv1.out.cell 0
                have e11 : v1.cell? ⟨wr.heap.size, 1, none⟩ = some (.string c) := HEv1.out.cell 1
                have e12 : v1.cell? ⟨wr.heap.size, 2, none⟩ = some (.int .i64 i) := HEv1.out.cell 2
                clear hb
                go_wp2_with fail
                go_ret
                exact ⟨rfl, HBc.out.trans (Below.mono HDv1.out HBc.out.size)⟩
              · skip
                obtain ⟨q2, hq2⟩ : ∃ q, nameR c = q := ⟨_, rfl⟩
                have C2 := hide (fun w h => iName c w HXs.out.2 h)
                rw [hq2] at C2
                have Q2 := hide hq2
                clear hq2
                cases q2
                · skip
                  have hR : R = false := by
                    refine no_of HQ (fun h => ?_)
                    have h1 := h.P.im _ (List.mem_of_getElem? HXk.out)
                    have h2 : impR Sn (a, c, i) = false := by simp [impR, Q0.out, Q1.out, Q2.out]
                    change impR Sn (a, c, i) = true at h1
                    rw [h2] at h1
                    cases h1
                  subst hR
                  go_wp2_with fail
                  refine (C0.out _).mono ?_
                  rintro e v ⟨rfl, rfl⟩
                  go_wp2_with fail
                  refine (C1.out _ (utab_bel HTc.out HDa.out)).mono ?_
                  rintro e v1 ⟨rfl, hb⟩
                  have HDv1 := hide (bel_step HDa.out hb HDa.out.size)
                  have HEv1 := hide (HEa.out.bel hb)
                  have p01 : v1.cell? ⟨w.heap.size, 0, none⟩ = some (.slice S Sn Sc) := (HKc.out.bel HDv1.out).cell 0
                  have e10 : v1.cell? ⟨wr.heap.size, 0, none⟩ = some (.string a) := HEv1.out.cell 0
                  have e11 : v1.cell? ⟨wr.heap.size, 1, none⟩ = some (.string c) := HEv1.out.cell 1
                  have e12 : v1.cell? ⟨wr.heap.size, 2, none⟩ = some (.int .i64 i) := HEv1.out.cell 2
                  clear hb
                  go_wp2_with fail
                  refine (C2.out _ (utab_bel HTc.out HDv1.out)).mono ?_
                  rintro e v2 ⟨rfl, hb⟩
                  have HDv2 := hide (bel_step HDv1.out hb HDv1.out.size)
                  have HEv2 := hide (HEv1.out.bel hb)
                  have p02 : v2.cell? ⟨w.heap.size, 0, none⟩ = some (.slice S Sn Sc) := (HKc.out.bel HDv2.out).cell 0
                  have e20 : v2.cell? ⟨wr.heap.size, 0, none⟩ = some (.string a) := HEv2.out.cell 0
                  have e21 : v2.cell? ⟨wr.heap.size, 1, none⟩ = some (.string c) := HEv2.out.cell 1
                  have e22 : v2.cell? ⟨wr.heap.size, 2, none⟩ = some (.int .i64 i) := HEv2.out.cell 2
                  clear hb
                  go_wp2_with fail
                  go_ret
                  exact ⟨rfl, HBc.out.trans (Below.mono HDv2.out HBc.out.size)⟩
                · skip
                  have HO1 := hide (ok_step (p := impR Sn) HO.out HXk.out (show impR Sn (a, c, i) = true by simp [impR, Q0.out, Q1.out, Q2.out]))
                  go_wp2_with fail
                  refine (C0.out _).mono ?_
                  rintro e v ⟨rfl, rfl⟩
                  go_wp2_with fail
                  refine (C1.out _ (utab_bel HTc.out HDa.out)).mono ?_
                  rintro e v1 ⟨rfl, hb⟩
                  have HDv1 := hide (bel_step HDa.out hb HDa.out.size)
                  have HEv1 := hide (HEa.out.bel hb)
                  have p01 : v1.cell? ⟨w.heap.size, 0, none⟩ = some (.slice S Sn Sc) := (HKc.out.bel HDv1.out).cell 0
                  have e10 : v1.cell? ⟨wr.heap.size, 0, none⟩ = some (.string a) := HEv1.out.cell 0
                  have e11 : v1.cell? ⟨wr.heap.size, 1, none⟩ = some (.string c) := HEv1.out.cell 1
                  have e12 : v1.cell? ⟨wr.heap.size, 2, none⟩ = some (.int .i64 i) := HEv1.out.cell 2
                  clear hb
                  go_wp2_with fail
                  refine (C2.out _ (utab_bel HTc.out HDv1.out)).mono ?_
                  rintro e v2 ⟨rfl, hb⟩
                  have HDv2 := hide (bel_step HDv1.out hb HDv1.out.size)
                  have HEv2 := hide (HEv1.out.bel hb)
                  have p02 : v2.cell? ⟨w.heap.size, 0, none⟩ = some (.slice S Sn Sc) := (HKc.out.bel HDv2.out).cell 0
                  have e20 : v2.cell? ⟨wr.heap.size, 0, none⟩ = some (.string a) := HEv2.out.cell 0
                  have e21 : v2.cell? ⟨wr.heap.size, 1, none⟩ = some (.string c) := HEv2.out.cell 1
                  have e22 : v2.cell? ⟨wr.heap.size, 2, none⟩ = some (.int .i64 i) := HEv2.out.cell 2
                  clear hb
                  go_wp2_with fail
                  go_roundw
                  case rel =>
                    first
                    | exact ⟨k + 1, by omega, by go_num, HO1, HDv2⟩
                  case measure => simp [intOf]; omega
          · obtain rfl : In = k := by omega
            have HAI := hide (ok_all (p := impR Sn) (rd_len impL (by omega) HRc.out.I) HO.out)
            have HDI := HD
            have hkn : decide ((In : Int) < In) = false := decide_eq_false (by omega)
            clear HD HO hk p0
            have p2 : wr.cell? ⟨w.heap.size, 2, none⟩ = some (.slice F Fn Fc) := (HKc.out.bel HDI.out).cell 2
            go_wp2_with fail
            clear hkn
            go_loopw [118] (fun i wr => ∃ k : Nat, k ≤ Fn ∧ i = .int .i64 k ∧ Hid (∀ j x, j < k → funs[j]? = some x → funR Sn x.pl = true) ∧ Hid (Below wc.heap.size wc wr)) (fun i _ => Fn - (intOf i).toNat)
            case atStart => exact ⟨0, Nat.zero_le _, rfl, hide (fun j x hj => by omega), HDI⟩
            case round =>
              obtain ⟨k, hk, rfl, HO, HD⟩ := hrel
              have p0 : wr.cell? ⟨w.heap.size, 0, none⟩ = some (.slice S Sn Sc) := (HKc.out.bel HD.out).cell 0
              have hz : w.heap.size < wr.heap.size := Nat.lt_of_lt_of_le HKc.out.lt HD.out.size
              by_cases hlt : k < Fn
              · obtain ⟨b, off, x, rfl, hx, hbg, hcell⟩ := rd_get (wr := wr) funL (by omega) HRc.out.F k hlt (fun p hp => HD.out.cell hp)
                have HXk := hide hx
                have HXb := hide (show _ ∧ _ from ⟨HRc.out.FB x (List.mem_of_getElem? hx), HX.out.FS x (List.mem_of_getElem? hx)⟩)
                obtain ⟨p, r, ⟨A2, n2, c2⟩, bd⟩ := x
                have hc0 : wr.cell? ⟨b, off + k * 3, none⟩ = some (.int .i64 p) := hcell 0 _ rfl
                have hc1 : wr.cell? ⟨b, off + k * 3 + 1, none⟩ = some (.int .i64 r) := hcell 1 _ rfl
                have hc2 : wr.cell? ⟨b, off + k * 3 + 2, none⟩ = some (.slice A2 n2 c2) := hcell 2 _ rfl
                have hi0 : (0 : Int) ≤ k := by omega
                have hi1 : (k : Int) < Fn := by omega
                have HDa := hide (HD.out.alloc HD.out.size (.cells #[.int .i64 p, .int .i64 r, .slice A2 n2 c2] 84))
                have HEa := hide (Blk.new wr #[.int .i64 p, .int .i64 r, .slice A2 n2 c2] 84)
                have pa : (wr.alloc (.cells #[.int .i64 p, .int .i64 r, .slice A2 n2 c2] 84)).cell? ⟨w.heap.size, 0, none⟩ = some (.slice S Sn Sc) := (HKc.out.bel HDa.out).cell 0
                clear hcell hx
                have hbl : bd.length = n2 := rd_ins HXb.out.1
                have hn2 : (n2 : Int) ≤ 1048576 := HXb.out.2
                have HBL := hide hbl
                clear hbl
                obtain ⟨q0, hq0⟩ : ∃ q, inR 0 ((Sn : Int) - 1) p = q := ⟨_, rfl⟩
                have C0 := hide (fun w => within_b p 0 ((Sn : Int) - 1) w)
                rw [hq0] at C0
                have Q0 := hide hq0
                clear hq0
                cases q0
                · skip
                  have hR : R = false := by
                    refine no_of HQ (fun h => ?_)
                    have h1 := h.P.fu _ (List.mem_of_getElem? HXk.out)
                    have h2 : funR Sn (p, r, bd) = false := by simp [funR, Q0.out]
                    change funR Sn (p, r, bd) = true at h1
                    rw [h2] at h1
                    cases h1
                  subst hR
                  go_wp2_with fail
                  refine (C0.out _).mono ?_
                  rintro e v ⟨rfl, rfl⟩
                  go_wp2_with fail
                  go_ret
                  exact ⟨rfl, HBc.out.trans (Below.mono HDa.out HBc.out.size)⟩
                · skip
                  obtain ⟨q1, hq1⟩ : ∃ q, inR 0 60 r = q := ⟨_, rfl⟩
                  have C1 := hide (fun w => within_b r 0 60 w)
                  rw [hq1] at C1
                  have Q1 := hide hq1
                  clear hq1
                  cases q1
                  · skip
                    have hR : R = false := by
                      refine no_of HQ (fun h => ?_)
                      have h1 := h.P.fu _ (List.mem_of_getElem? HXk.out)
                      have h2 : funR Sn (p, r, bd) = false := by simp [funR, Q0.out, Q1.out]
                      change funR Sn (p, r, bd) = true at h1
                      rw [h2] at h1
                      cases h1
                    subst hR
                    go_wp2_with fail
                    refine (C0.out _).mono ?_
                    rintro e v ⟨rfl, rfl⟩
                    go_wp2_with fail
                    refine (C1.out _).mono ?_
                    rintro e v ⟨rfl, rfl⟩
                    go_wp2_with fail
                    go_ret
                    exact ⟨rfl, HBc.out.trans (Below.mono HDa.out HBc.out.size)⟩
                  · skip
                    by_cases hc_2 : 1500 < (n2 : Int)
                    · skip
                      have hR : R = false := by
                        refine no_of HQ (fun h => ?_)
                        have h1 := h.P.fu _ (List.mem_of_getElem? HXk.out)
                        have h2 : funR Sn (p, r, bd) = false := by simp [funR, Q0.out, Q1.out, bodyR, (show ¬ ((n2 : Int) ≤ 1500) by omega), HBL.out]
                        change funR Sn (p, r, bd) = true at h1
                        rw [h2] at h1
                        cases h1
                      subst hR
                      go_wp2_with fail
                      refine (C0.out _).mono ?_
                      rintro e v ⟨rfl, rfl⟩
                      go_wp2_with fail
                      refine (C1.out _).mono ?_
                      rintro e v ⟨rfl, rfl⟩
                      go_wp2_with fail
                      go_ret
                      exact ⟨rfl, HBc.out.trans (Below.mono HDa.out HBc.out.size)⟩
                    · have hg_2 : (n2 : Int) ≤ 1500 := by omega
                      clear hc_2
                      obtain ⟨q3, hq3⟩ : ∃ q, Bb.allOk bd = q := ⟨_, rfl⟩
                      have C3 := hide (fun w hr => Bb.allOk_c A2 n2 c2 bd w hr (by have := HXb.out.2; simp only [] at this; omega))
                      rw [hq3] at C3
                      have Q3 := hide hq3
                      clear hq3
                      cases q3
                      · skip
                        have hR : R = false := by
                          refine no_of HQ (fun h => ?_)
                          have h1 := h.P.fu _ (List.mem_of_getElem? HXk.out)
                          have h2 : funR Sn (p, r, bd) = false := by simp [funR, Q0.out, Q1.out, bodyR, (show (n2 : Int) ≤ 1500 by omega), HBL.out, Q3.out]
                          change funR Sn (p, r, bd) = true at h1
                          rw [h2] at h1
                          cases h1
                        subst hR
                        go_wp2_with fail
                        refine (C0.out _).mono ?_
                        rintro e v ⟨rfl, rfl⟩
                        go_wp2_with fail
                        refine (C1.out _).mono ?_
                        rintro e v ⟨rfl, rfl⟩
                        go_wp2_with fail
                        refine (C3.out _ (HXb.out.1.bel HDa.out)).mono ?_
                        rintro e v1 ⟨rfl, hb⟩
                        have HDv1 := hide (bel_step HDa.out hb HDa.out.size)
                        have HEv1 := hide (HEa.out.bel hb)
                        have p01 : v1.cell? ⟨w.heap.size, 0, none⟩ = some (.slice S Sn Sc) := (HKc.out.bel HDv1.out).cell 0
                        have e10 : v1.cell? ⟨wr.heap.size, 0, none⟩ = some (.int .i64 p) := HEv1.out.cell 0
                        have e11 : v1.cell? ⟨wr.heap.size, 1, none⟩ = some (.int .i64 r) := HEv1.out.cell 1
                        have e12 : v1.cell? ⟨wr.heap.size, 2, none⟩ = some (.slice A2 n2 c2) := HEv1.out.cell 2
                        clear hb
                        go_wp2_with fail
                        go_ret
                        exact ⟨rfl, HBc.out.trans (Below.mono HDv1.out HBc.out.size)⟩
                      · skip
                        obtain ⟨q4, hq4⟩ : ∃ q, shapeOk bd = q := ⟨_, rfl⟩
                        have C4 := hide (fun w hr => iShapeOk A2 n2 c2 bd w hr (by have := HXb.out.2; simp only [] at this; omega))
                        rw [hq4] at C4
                        have Q4 := hide hq4
                        clear hq4
                        cases q4
                        · skip
                          have hR : R = false := by
                            refine no_of HQ (fun h => ?_)
                            have h1 := h.P.fu _ (List.mem_of_getElem? HXk.out)
                            have h2 : funR Sn (p, r, bd) = false := by simp [funR, Q0.out, Q1.out, bodyR, (show (n2 : Int) ≤ 1500 by omega), HBL.out, Q3.out, Q4.out]
                            change funR Sn (p, r, bd) = true at h1
                            rw [h2] at h1
                            cases h1
                          subst hR
                          go_wp2_with fail
                          refine (C0.out _).mono ?_
                          rintro e v ⟨rfl, rfl⟩
                          go_wp2_with fail
                          refine (C1.out _).mono ?_
                          rintro e v ⟨rfl, rfl⟩
                          go_wp2_with fail
                          refine (C3.out _ (HXb.out.1.bel HDa.out)).mono ?_
                          rintro e v1 ⟨rfl, hb⟩
                          have HDv1 := hide (bel_step HDa.out hb HDa.out.size)
                          have HEv1 := hide (HEa.out.bel hb)
                          have p01 : v1.cell? ⟨w.heap.size, 0, none⟩ = some (.slice S Sn Sc) := (HKc.out.bel HDv1.out).cell 0
                          have e10 : v1.cell? ⟨wr.heap.size, 0, none⟩ = some (.int .i64 p) := HEv1.out.cell 0
                          have e11 : v1.cell? ⟨wr.heap.size, 1, none⟩ = some (.int .i64 r) := HEv1.out.cell 1
                          have e12 : v1.cell? ⟨wr.heap.size, 2, none⟩ = some (.slice A2 n2 c2) := HEv1.out.cell 2
                          clear hb
                          go_wp2_with fail
                          refine (C4.out _ (HXb.out.1.bel HDv1.out)).mono ?_
                          rintro e v2 ⟨rfl, hb⟩
                          have HDv2 := hide (bel_step HDv1.out hb HDv1.out.size)
                          have HEv2 := hide (HEv1.out.bel hb)
                          have p02 : v2.cell? ⟨w.heap.size, 0, none⟩ = some (.slice S Sn Sc) := (HKc.out.bel HDv2.out).cell 0
                          have e20 : v2.cell? ⟨wr.heap.size, 0, none⟩ = some (.int .i64 p) := HEv2.out.cell 0
                          have e21 : v2.cell? ⟨wr.heap.size, 1, none⟩ = some (.int .i64 r) := HEv2.out.cell 1
                          have e22 : v2.cell? ⟨wr.heap.size, 2, none⟩ = some (.slice A2 n2 c2) := HEv2.out.cell 2
                          clear hb
                          go_wp2_with fail
                          go_ret
                          exact ⟨rfl, HBc.out.trans (Below.mono HDv2.out HBc.out.size)⟩
                        · skip
                          have HO1 := hide (ok_step (p := (fun x : FV => funR Sn x.pl)) HO.out HXk.out (show funR Sn (p, r, bd) = true by simp [funR, Q0.out, Q1.out, bodyR, (show (n2 : Int) ≤ 1500 by omega), HBL.out, Q3.out, Q4.out]))
                          go_wp2_with fail
                          refine (C0.out _).mono ?_
                          rintro e v ⟨rfl, rfl⟩
                          go_wp2_with fail
                          refine (C1.out _).mono ?_
                          rintro e v ⟨rfl, rfl⟩
                          go_wp2_with fail
                          refine (C3.out _ (HXb.out.1.bel HDa.out)).mono ?_
                          rintro e v1 ⟨rfl, hb⟩
                          have HDv1 := hide (bel_step HDa.out hb HDa.out.size)
                          have HEv1 := hide (HEa.out.bel hb)
                          have p01 : v1.cell? ⟨w.heap.size, 0, none⟩ = some (.slice S Sn Sc) := (HKc.out.bel HDv1.out).cell 0
                          have e10 : v1.cell? ⟨wr.heap.size, 0, none⟩ = some (.int .i64 p) := HEv1.out.cell 0
                          have e11 : v1.cell? ⟨wr.heap.size, 1, none⟩ = some (.int .i64 r) := HEv1.out.cell 1
                          have e12 : v1.cell? ⟨wr.heap.size, 2, none⟩ = some (.slice A2 n2 c2) := HEv1.out.cell 2
                          clear hb
                          go_wp2_with fail
                          refine (C4.out _ (HXb.out.1.bel HDv1.out)).mono ?_
                          rintro e v2 ⟨rfl, hb⟩
                          have HDv2 := hide (bel_step HDv1.out hb HDv1.out.size)
                          have HEv2 := hide (HEv1.out.bel hb)
                          have p02 : v2.cell? ⟨w.heap.size, 0, none⟩ = some (.slice S Sn Sc) := (HKc.out.bel HDv2.out).cell 0
                          have e20 : v2.cell? ⟨wr.heap.size, 0, none⟩ = some (.int .i64 p) := HEv2.out.cell 0
                          have e21 : v2.cell? ⟨wr.heap.size, 1, none⟩ = some (.int .i64 r) := HEv2.out.cell 1
                          have e22 : v2.cell? ⟨wr.heap.size, 2, none⟩ = some (.slice A2 n2 c2) := HEv2.out.cell 2
                          clear hb
                          go_wp2_with fail
                          go_roundw
                          case rel =>
                            first
                            | exact ⟨k + 1, by omega, by go_num, HO1, HDv2⟩
                          case measure => simp [intOf]; omega
              · obtain rfl : Fn = k := by omega
                have HAF := hide (ok_all (p := (fun x : FV => funR Sn x.pl)) (rd_len funL (by omega) HRc.out.F) HO.out)
                have HDF := HD
                have hkn : decide ((Fn : Int) < Fn) = false := decide_eq_false (by omega)
                clear HD HO hk p0
                have p5 : wr.cell? ⟨w.heap.size, 5, none⟩ = some (.slice G Gn Gc) := (HKc.out.bel HDF.out).cell 5
                go_wp2_with fail
                clear hkn
                go_loopw [158] (fun i wr => ∃ k : Nat, k ≤ Gn ∧ i = .int .i64 k ∧ Hid (∀ j x, j < k → glos[j]? = some x → gloR x = true) ∧ Hid (Below wc.heap.size wc wr)) (fun i _ => Gn - (intOf i).toNat)
                case atStart => exact ⟨0, Nat.zero_le _, rfl, hide (fun j x hj => by omega), HDF⟩
                case round =>
                  obtain ⟨k, hk, rfl, HO, HD⟩ := hrel
                  have p0 : wr.cell? ⟨w.heap.size, 0, none⟩ = some (.slice S Sn Sc) := (HKc.out.bel HD.out).cell 0
                  have hz : w.heap.size < wr.heap.size := Nat.lt_of_lt_of_le HKc.out.lt HD.out.size
                  by_cases hlt : k < Gn
                  · obtain ⟨b, off, x, rfl, hx, hbg, hcell⟩ := rd_get (wr := wr) gloL (by omega) HRc.out.G k hlt (fun p hp => HD.out.cell hp)
                    have HXk := hide hx
                    obtain ⟨u, i⟩ := x
                    have hc0 : wr.cell? ⟨b, off + k * 2, none⟩ = some (.bool u) := hcell 0 _ rfl
                    have hc1 : wr.cell? ⟨b, off + k * 2 + 1, none⟩ = some (.int .i64 i) := hcell 1 _ rfl
                    have hi0 : (0 : Int) ≤ k := by omega
                    have hi1 : (k : Int) < Gn := by omega
                    have HDa := hide (HD.out.alloc HD.out.size (.cells #[.bool u, .int .i64 i] 87))
                    have HEa := hide (Blk.new wr #[.bool u, .int .i64 i] 87)
                    have pa : (wr.alloc (.cells #[.bool u, .int .i64 i] 87)).cell? ⟨w.heap.size, 0, none⟩ = some (.slice S Sn Sc) := (HKc.out.bel HDa.out).cell 0
                    clear hcell hx
                    obtain ⟨q0, hq0⟩ : ∃ q, inR (-2147483648) 2147483647 i = q := ⟨_, rfl⟩
                    have C0 := hide (fun w => within_b i (-2147483648) 2147483647 w)
                    rw [hq0] at C0
                    have Q0 := hide hq0
                    clear hq0
                    cases q0
                    · skip
                      have hR : R = false := by
                        refine no_of HQ (fun h => ?_)
                        have h1 := h.gl _ (List.mem_of_getElem? HXk.out)
                        have h2 : gloR (u, i) = false := by simp [gloR, Q0.out]
                        change gloR (u, i) = true at h1
                        rw [h2] at h1
                        cases h1
                      subst hR
                      go_wp2_with fail
                      refine (C0.out _).mono ?_
                      rintro e v ⟨rfl, rfl⟩
                      go_wp2_with fail
                      go_ret
                      exact ⟨rfl, HBc.out.trans (Below.mono HDa.out HBc.out.size)⟩
                    · skip
                      have HO1 := hide (ok_step (p := gloR) HO.out HXk.out (show gloR (u, i) = true by simp [gloR, Q0.out]))
                      go_wp2_with fail
                      refine (C0.out _).mono ?_
                      rintro e v ⟨rfl, rfl⟩
                      go_wp2_with fail
                      go_roundw
                      case rel =>
                        first
                        | exact ⟨k + 1, by omega, by go_num, HO1, HDa⟩
                      case measure => simp [intOf]; omega
                  · obtain rfl : Gn = k := by omega
                    have HAG := hide (ok_all (p := gloR) (rd_len gloL (by omega) HRc.out.G) HO.out)
                    have HDG := HD
                    have hkn : decide ((Gn : Int) < Gn) = false := decide_eq_false (by omega)
                    clear HD HO hk p0
                    have p6 : wr.cell? ⟨w.heap.size, 6, none⟩ = some (.slice E En Ec) := (HKc.out.bel HDG.out).cell 6
                    go_wp2_with fail
                    clear hkn
                    go_loopw [170] (fun i wr => ∃ k : Nat, k ≤ En ∧ i = .int .i64 k ∧ Hid (∀ j x, j < k → exps[j]? = some x → expR x = true) ∧ Hid (Below wc.heap.size wc wr)) (fun i _ => En - (intOf i).toNat)
                    case atStart => exact ⟨0, Nat.zero_le _, rfl, hide (fun j x hj => by omega), HDG⟩
                    case round =>
                      obtain ⟨k, hk, rfl, HO, HD⟩ := hrel
                      have p0 : wr.cell? ⟨w.heap.size, 0, none⟩ = some (.slice S Sn Sc) := (HKc.out.bel HD.out).cell 0
                      have hz : w.heap.size < wr.heap.size := Nat.lt_of_lt_of_le HKc.out.lt HD.out.size
                      by_cases hlt : k < En
                      · obtain ⟨b, off, x, rfl, hx, hbg, hcell⟩ := rd_get (wr := wr) expL (by omega) HRc.out.E k hlt (fun p hp => HD.out.cell hp)
                        have HXk := hide hx
                        have HXs := hide (HX.out.ES x (List.mem_of_getElem? hx))
                        obtain ⟨a, c, i⟩ := x
                        have hc0 : wr.cell? ⟨b, off + k * 3, none⟩ = some (.string a) := hcell 0 _ rfl
                        have hc1 : wr.cell? ⟨b, off + k * 3 + 1, none⟩ = some (.int .i64 c) := hcell 1 _ rfl
                        have hc2 : wr.cell? ⟨b, off + k * 3 + 2, none⟩ = some (.int .i64 i) := hcell 2 _ rfl
                        have hi0 : (0 : Int) ≤ k := by omega
                        have hi1 : (k : Int) < En := by omega
                        have HDa := hide (HD.out.alloc HD.out.size (.cells #[.string a, .int .i64 c, .int .i64 i] 89))
                        have HEa := hide (Blk.new wr #[.string a, .int .i64 c, .int .i64 i] 89)
                        have pa : (wr.alloc (.cells #[.string a, .int .i64 c, .int .i64 i] 89)).cell? ⟨w.heap.size, 0, none⟩ = some (.slice S Sn Sc) := (HKc.out.bel HDa.out).cell 0
                        clear hcell hx
                        obtain ⟨q0, hq0⟩ : ∃ q, nameR a = q := ⟨_, rfl⟩
                        have C0 := hide (fun w h => iName a w HXs.out h)
                        rw [hq0] at C0
                        have Q0 := hide hq0
                        clear hq0
                        cases q0
                        · skip
                          have hR : R = false := by
                            refine no_of HQ (fun h => ?_)
                            have h1 := h.ex _ (List.mem_of_getElem? HXk.out)
                            have h2 : expR (a, c, i) = false := by simp [expR, Q0.out]
                            change expR (a, c, i) = true at h1
                            rw [h2] at h1
                            cases h1
                          subst hR
                          go_wp2_with fail
                          refine (C0.out _ (utab_bel HTc.out HDa.out)).mono ?_
                          rintro e v1 ⟨rfl, hb⟩
                          have HDv1 := hide (bel_step HDa.out hb HDa.out.size)
                          have HEv1 := hide (HEa.out.bel hb)
                          have p01 : v1.cell? ⟨w.heap.size, 0, none⟩ = some (.slice S Sn Sc) := (HKc.out.bel HDv1.out).cell 0
                          have e10 : v1.cell? ⟨wr.heap.size, 0, none⟩ = some (.string a) := HEv1.out.cell 0
                          have e11 : v1.cell? ⟨wr.heap.size, 1, none⟩ = some (.int .i64 c) := HEv1.out.cell 1
                          have e12 : v1.cell? ⟨wr.heap.size, 2, none⟩ = some (.int .i64 i) := HEv1.out.cell 2
                          clear hb
                          go_wp2_with fail
                          go_ret
                          exact ⟨rfl, HBc.out.trans (Below.mono HDv1.out HBc.out.size)⟩
                        · skip
                          by_cases hk0 : c = 0
                          · subst hk0
                            have HKd := hide (show kindR 0 = true from decide_eq_true (by omega))
                            obtain ⟨q2, hq2⟩ : ∃ q, inR 0 1000 i = q := ⟨_, rfl⟩
                            have C2 := hide (fun w => within_b i 0 1000 w)
                            rw [hq2] at C2
                            have Q2 := hide hq2
                            clear hq2
                            cases q2
                            · skip
                              have hR : R = false := by
                                refine no_of HQ (fun h => ?_)
                                have h1 := h.ex _ (List.mem_of_getElem? HXk.out)
                                have h2 : expR (a, 0, i) = false := by simp [expR, Q0.out, HKd.out, Q2.out]
                                change expR (a, 0, i) = true at h1
                                rw [h2] at h1
                                cases h1
                              subst hR
                              go_wp2_with fail
                              refine (C0.out _ (utab_bel HTc.out HDa.out)).mono ?_
                              rintro e v1 ⟨rfl, hb⟩
                              have HDv1 := hide (bel_step HDa.out hb HDa.out.size)
                              have HEv1 := hide (HEa.out.bel hb)
                              have p01 : v1.cell? ⟨w.heap.size, 0, none⟩ = some (.slice S Sn Sc) := (HKc.out.bel HDv1.out).cell 0
                              have e10 : v1.cell? ⟨wr.heap.size, 0, none⟩ = some (.string a) := HEv1.out.cell 0
                              have e11 : v1.cell? ⟨wr.heap.size, 1, none⟩ = some (.int .i64 0) := HEv1.out.cell 1
                              have e12 : v1.cell? ⟨wr.heap.size, 2, none⟩ = some (.int .i64 i) := HEv1.out.cell 2
                              clear hb
                              go_wp2_with fail
                              refine (C2.out _).mono ?_
                              rintro e v ⟨rfl, rfl⟩
                              go_wp2_with fail
                              go_ret
                              exact ⟨rfl, HBc.out.trans (Below.mono HDv1.out HBc.out.size)⟩
                            · skip
                              have HO1 := hide (ok_step (p := expR) HO.out HXk.out (show expR (a, 0, i) = true by simp [expR, Q0.out, HKd.out, Q2.out]))
                              go_wp2_with fail
                              refine (C0.out _ (utab_bel HTc.out HDa.out)).mono ?_
                              rintro e v1 ⟨rfl, hb⟩
                              have HDv1 := hide (bel_step HDa.out hb HDa.out.size)
                              have HEv1 := hide (HEa.out.bel hb)
                              have p01 : v1.cell? ⟨w.heap.size, 0, none⟩ = some (.slice S Sn Sc) := (HKc.out.bel HDv1.out).cell 0
                              have e10 : v1.cell? ⟨wr.heap.size, 0, none⟩ = some (.string a) := HEv1.out.cell 0
                              have e11 : v1.cell? ⟨wr.heap.size, 1, none⟩ = some (.int .i64 0) := HEv1.out.cell 1
                              have e12 : v1.cell? ⟨wr.heap.size, 2, none⟩ = some (.int .i64 i) := HEv1.out.cell 2
                              clear hb
                              go_wp2_with fail
                              refine (C2.out _).mono ?_
                              rintro e v ⟨rfl, rfl⟩
                              go_wp2_with fail
                              go_roundw
                              case rel =>
                                first
                                | exact ⟨k + 1, by omega, by go_num, HO1, HDv1⟩
                              case measure => simp [intOf]; omega
                          · skip
                            have hkb0 : (c == 0) = false := by simpa using hk0
                            by_cases hk2 : c = 2
                            · subst hk2
                              have HKd := hide (show kindR 2 = true from decide_eq_true (by omega))
                              obtain ⟨q2, hq2⟩ : ∃ q, inR 0 1000 i = q := ⟨_, rfl⟩
                              have C2 := hide (fun w => within_b i 0 1000 w)
                              rw [hq2] at C2
                              have Q2 := hide hq2
                              clear hq2
                              cases q2
                              · skip
                                have hR : R = false := by
                                  refine no_of HQ (fun h => ?_)
                                  have h1 := h.ex _ (List.mem_of_getElem? HXk.out)
                                  have h2 : expR (a, 2, i) = false := by simp [expR, Q0.out, HKd.out, Q2.out]
                                  change expR (a, 2, i) = true at h1
                                  rw [h2] at h1
                                  cases h1
                                subst hR
                                go_wp2_with fail
                                refine (C0.out _ (utab_bel HTc.out HDa.out)).mono ?_
                                rintro e v1 ⟨rfl, hb⟩
                                have HDv1 := hide (bel_step HDa.out hb HDa.out.size)
                                have HEv1 := hide (HEa.out.bel hb)
                                have p01 : v1.cell? ⟨w.heap.size, 0, none⟩ = some (.slice S Sn Sc) := (HKc.out.bel HDv1.out).cell 0
                                have e10 : v1.cell? ⟨wr.heap.size, 0, none⟩ = some (.string a) := HEv1.out.cell 0
                                have e11 : v1.cell? ⟨wr.heap.size, 1, none⟩ = some (.int .i64 2) := HEv1.out.cell 1
                                have e12 : v1.cell? ⟨wr.heap.size, 2, none⟩ = some (.int .i64 i) := HEv1.out.cell 2
                                clear hb
                                go_wp2_with fail
                                refine (C2.out _).mono ?_
                                rintro e v ⟨rfl, rfl⟩
                                go_wp2_with fail
                                go_ret
                                exact ⟨rfl, HBc.out.trans (Below.mono HDv1.out HBc.out.size)⟩
                              · skip
                                have HO1 := hide (ok_step (p := expR) HO.out HXk.out (show expR (a, 2, i) = true by simp [expR, Q0.out, HKd.out, Q2.out]))
                                go_wp2_with fail
                                refine (C0.out _ (utab_bel HTc.out HDa.out)).mono ?_
                                rintro e v1 ⟨rfl, hb⟩
                                have HDv1 := hide (bel_step HDa.out hb HDa.out.size)
                                have HEv1 := hide (HEa.out.bel hb)
                                have p01 : v1.cell? ⟨w.heap.size, 0, none⟩ = some (.slice S Sn Sc) := (HKc.out.bel HDv1.out).cell 0
                                have e10 : v1.cell? ⟨wr.heap.size, 0, none⟩ = some (.string a) := HEv1.out.cell 0
                                have e11 : v1.cell? ⟨wr.heap.size, 1, none⟩ = some (.int .i64 2) := HEv1.out.cell 1
                                have e12 : v1.cell? ⟨wr.heap.size, 2, none⟩ = some (.int .i64 i) := HEv1.out.cell 2
                                clear hb
                                go_wp2_with fail
                                refine (C2.out _).mono ?_
                                rintro e v ⟨rfl, rfl⟩
                                go_wp2_with fail
                                go_roundw
                                case rel =>
                                  first
                                  | exact ⟨k + 1, by omega, by go_num, HO1, HDv1⟩
                                case measure => simp [intOf]; omega
                            · skip
                              have hkb2 : (c == 2) = false := by simpa using hk2
                              by_cases hk3 : c = 3
                              · subst hk3
                                have HKd := hide (show kindR 3 = true from decide_eq_true (by omega))
                                obtain ⟨q2, hq2⟩ : ∃ q, inR 0 1000 i = q := ⟨_, rfl⟩
                                have C2 := hide (fun w => within_b i 0 1000 w)
                                rw [hq2] at C2
                                have Q2 := hide hq2
                                clear hq2
                                cases q2
                                · skip
                                  have hR : R = false := by
                                    refine no_of HQ (fun h => ?_)
                                    have h1 := h.ex _ (List.mem_of_getElem? HXk.out)
                                    have h2 : expR (a, 3, i) = false := by simp [expR, Q0.out, HKd.out, Q2.out]
                                    change expR (a, 3, i) = true at h1
                                    rw [h2] at h1
                                    cases h1
                                  subst hR
                                  go_wp2_with fail
                                  refine (C0.out _ (utab_bel HTc.out HDa.out)).mono ?_
                                  rintro e v1 ⟨rfl, hb⟩
                                  have HDv1 := hide (bel_step HDa.out hb HDa.out.size)
                                  have HEv1 := hide (HEa.out.bel hb)
                                  have p01 : v1.cell? ⟨w.heap.size, 0, none⟩ = some (.slice S Sn Sc) := (HKc.out.bel HDv1.out).cell 0
                                  have e10 : v1.cell? ⟨wr.heap.size, 0, none⟩ = some (.string a) := HEv1.out.cell 0
                                  have e11 : v1.cell? ⟨wr.heap.size, 1, none⟩ = some (.int .i64 3) := HEv1.out.cell 1
                                  have e12 : v1.cell? ⟨wr.heap.size, 2, none⟩ = some (.int .i64 i) := HEv1.out.cell 2
                                  clear hb
                                  go_wp2_with fail
                                  refine (C2.out _).mono ?_
                                  rintro e v ⟨rfl, rfl⟩
                                  go_wp2_with fail
                                  go_ret
                                  exact ⟨rfl, HBc.out.trans (Below.mono HDv1.out HBc.out.size)⟩
                                · skip
                                  have HO1 := hide (ok_step (p := expR) HO.out HXk.out (show expR (a, 3, i) = true by simp [expR, Q0.out, HKd.out, Q2.out]))
                                  go_wp2_with fail
                                  refine (C0.out _ (utab_bel HTc.out HDa.out)).mono ?_
                                  rintro e v1 ⟨rfl, hb⟩
                                  have HDv1 := hide (bel_step HDa.out hb HDa.out.size)
                                  have HEv1 := hide (HEa.out.bel hb)
                                  have p01 : v1.cell? ⟨w.heap.size, 0, none⟩ = some (.slice S Sn Sc) := (HKc.out.bel HDv1.out).cell 0
                                  have e10 : v1.cell? ⟨wr.heap.size, 0, none⟩ = some (.string a) := HEv1.out.cell 0
                                  have e11 : v1.cell? ⟨wr.heap.size, 1, none⟩ = some (.int .i64 3) := HEv1.out.cell 1
                                  have e12 : v1.cell? ⟨wr.heap.size, 2, none⟩ = some (.int .i64 i) := HEv1.out.cell 2
                                  clear hb
                                  go_wp2_with fail
                                  refine (C2.out _).mono ?_
                                  rintro e v ⟨rfl, rfl⟩
                                  go_wp2_with fail
                                  go_roundw
                                  case rel =>
                                    first
                                    | exact ⟨k + 1, by omega, by go_num, HO1, HDv1⟩
                                  case measure => simp [intOf]; omega
                              · skip
                                have hkb3 : (c == 3) = false := by simpa using hk3
                                have hR : R = false := by
                                  refine no_of HQ (fun h => ?_)
                                  have h1 := h.ex _ (List.mem_of_getElem? HXk.out)
                                  have h2 : expR (a, c, i) = false := by simp [expR, Q0.out, (show kindR c = false from decide_eq_false (by omega))]
                                  change expR (a, c, i) = true at h1
                                  rw [h2] at h1
                                  cases h1
                                subst hR
                                go_wp2_with fail
                                refine (C0.out _ (utab_bel HTc.out HDa.out)).mono ?_
                                rintro e v1 ⟨rfl, hb⟩
                                have HDv1 := hide (bel_step HDa.out hb HDa.out.size)
                                have HEv1 := hide (HEa.out.bel hb)
                                have p01 : v1.cell? ⟨w.heap.size, 0, none⟩ = some (.slice S Sn Sc) := (HKc.out.bel HDv1.out).cell 0
                                have e10 : v1.cell? ⟨wr.heap.size, 0, none⟩ = some (.string a) := HEv1.out.cell 0
                                have e11 : v1.cell? ⟨wr.heap.size, 1, none⟩ = some (.int .i64 c) := HEv1.out.cell 1
                                have e12 : v1.cell? ⟨wr.heap.size, 2, none⟩ = some (.int .i64 i) := HEv1.out.cell 2
                                clear hb
                                go_wp2_with fail
                                go_ret
                                exact ⟨rfl, HBc.out.trans (Below.mono HDv1.out HBc.out.size)⟩
                      · obtain rfl : En = k := by omega
                        have HAE := hide (ok_all (p := expR) (rd_len expL (by omega) HRc.out.E) HO.out)
                        have HDE := HD
                        have hkn : decide ((En : Int) < En) = false := decide_eq_false (by omega)
                        clear HD HO hk p0
                        have p7 : wr.cell? ⟨w.heap.size, 7, none⟩ = some (.slice D Dn Dc) := (HKc.out.bel HDE.out).cell 7
                        go_wp2_with fail
                        clear hkn
                        go_loopw [203] (fun i wr => ∃ k : Nat, k ≤ Dn ∧ i = .int .i64 k ∧ Hid (∀ j x, j < k → dats[j]? = some x → datR x.pl = true) ∧ Hid (Below wc.heap.size wc wr)) (fun i _ => Dn - (intOf i).toNat)
                        case atStart => exact ⟨0, Nat.zero_le _, rfl, hide (fun j x hj => by omega), HDE⟩
                        case round =>
                          obtain ⟨k, hk, rfl, HO, HD⟩ := hrel
                          have p0 : wr.cell? ⟨w.heap.size, 0, none⟩ = some (.slice S Sn Sc) := (HKc.out.bel HD.out).cell 0
                          have hz : w.heap.size < wr.heap.size := Nat.lt_of_lt_of_le HKc.out.lt HD.out.size
                          by_cases hlt : k < Dn
                          · obtain ⟨b, off, x, rfl, hx, hbg, hcell⟩ := rd_get (wr := wr) datL (by omega) HRc.out.D k hlt (fun p hp => HD.out.cell hp)
                            have HXk := hide hx
                            have HXb := hide (show _ ∧ _ from ⟨HRc.out.DB x (List.mem_of_getElem? hx), HX.out.DS x (List.mem_of_getElem? hx)⟩)
                            obtain ⟨i, ⟨A2, n2, c2⟩, bs⟩ := x
                            have hc0 : wr.cell? ⟨b, off + k * 2, none⟩ = some (.int .i64 i) := hcell 0 _ rfl
                            have hc1 : wr.cell? ⟨b, off + k * 2 + 1, none⟩ = some (.slice A2 n2 c2) := hcell 1 _ rfl
                            have hi0 : (0 : Int) ≤ k := by omega
                            have hi1 : (k : Int) < Dn := by omega
                            have HDa := hide (HD.out.alloc HD.out.size (.cells #[.int .i64 i, .slice A2 n2 c2] 93))
                            have HEa := hide (Blk.new wr #[.int .i64 i, .slice A2 n2 c2] 93)
                            have pa : (wr.alloc (.cells #[.int .i64 i, .slice A2 n2 c2] 93)).cell? ⟨w.heap.size, 0, none⟩ = some (.slice S Sn Sc) := (HKc.out.bel HDa.out).cell 0
                            clear hcell hx
                            have hbl : bs.length = n2 := rd_by8 HXb.out.1
                            have hn2 : (n2 : Int) ≤ 1048576 := HXb.out.2
                            have HBL := hide hbl
                            clear hbl
                            obtain ⟨q0, hq0⟩ : ∃ q, inR (-2147483648) 2147483647 i = q := ⟨_, rfl⟩
                            have C0 := hide (fun w => within_b i (-2147483648) 2147483647 w)
                            rw [hq0] at C0
                            have Q0 := hide hq0
                            clear hq0
                            cases q0
                            · skip
                              have hR : R = false := by
                                refine no_of HQ (fun h => ?_)
                                have h1 := h.da _ (List.mem_of_getElem? HXk.out)
                                have h2 : datR (i, bs) = false := by simp [datR, Q0.out]
                                change datR (i, bs) = true at h1
                                rw [h2] at h1
                                cases h1
                              subst hR
                              go_wp2_with fail
                              refine (C0.out _).mono ?_
                              rintro e v ⟨rfl, rfl⟩
                              go_wp2_with fail
                              go_ret
                              exact ⟨rfl, HBc.out.trans (Below.mono HDa.out HBc.out.size)⟩
                            · skip
                              by_cases hc_1 : 2000 < (n2 : Int)
                              · skip
                                have hR : R = false := by
                                  refine no_of HQ (fun h => ?_)
                                  have h1 := h.da _ (List.mem_of_getElem? HXk.out)
                                  have h2 : datR (i, bs) = false := by simp [datR, Q0.out, (show ¬ ((n2 : Int) ≤ 2000) by omega), HBL.out]
                                  change datR (i, bs) = true at h1
                                  rw [h2] at h1
                                  cases h1
                                subst hR
                                go_wp2_with fail
                                refine (C0.out _).mono ?_
                                rintro e v ⟨rfl, rfl⟩
                                go_wp2_with fail
                                go_ret
                                exact ⟨rfl, HBc.out.trans (Below.mono HDa.out HBc.out.size)⟩
                              · have hg_1 : (n2 : Int) ≤ 2000 := by omega
                                clear hc_1
                                have HO1 := hide (ok_step (p := (fun x : DV => datR x.pl)) HO.out HXk.out (show datR (i, bs) = true by simp [datR, Q0.out, (show (n2 : Int) ≤ 2000 by omega), HBL.out]))
                                go_wp2_with fail
                                refine (C0.out _).mono ?_
                                rintro e v ⟨rfl, rfl⟩
                                go_wp2_with fail
                                go_roundw
                                case rel =>
                                  first
                                  | exact ⟨k + 1, by omega, by go_num, HO1, HDa⟩
                                case measure => simp [intOf]; omega
                          · obtain rfl : Dn = k := by omega
                            have HAD := hide (ok_all (p := (fun x : DV => datR x.pl)) (rd_len datL (by omega) HRc.out.D) HO.out)
                            have HDD := HD
                            have hkn : decide ((Dn : Int) < Dn) = false := decide_eq_false (by omega)
                            clear HD HO hk p0
                            have hR : R = true := yes_of HQ ⟨⟨HA1.out, HA2.out, HAS.out, HAI.out, HAF.out⟩, HPG.out, HA3.out, HA4.out, HA5.out, HAG.out, HAE.out, HAD.out⟩
                            subst hR
                            go_wp2_with fail
                            go_ret
                            exact ⟨rfl, HBc.out.trans (HDD.out.mono HBc.out.size)⟩
end Go.Proofs.YtiinkfejdnfonaaGreatDoor.Mo
