/- Modules of a right form, in the reference: a contract. -/
import Derived.Test.YtiinkfejdnfonaaGreatDoorFmC
namespace Go.Proofs.YtiinkfejdnfonaaGreatDoor.Mo
open Go.RowKit Go.Proofs.YtiinkfejdnfonaaGreatDoor.Num Go.Proofs.YtiinkfejdnfonaaGreatDoor.NumC Go.Proofs.YtiinkfejdnfonaaGreatDoor.Mem Go.Proofs.YtiinkfejdnfonaaGreatDoor.Shape Go.Proofs.YtiinkfejdnfonaaGreatDoor.Utf Go.Proofs.YtiinkfejdnfonaaGreatDoor.Ops Go.Proofs.YtiinkfejdnfonaaGreatDoor.Body
set_option linter.unusedVariables false
set_option maxRecDepth 100000 in
set_option maxHeartbeats 8000000 in
theorem sFormOk (m : MV) (w : World) (hR : m.Reads w) (hX : m.Long 1048576) :
    Calls Tryz.prog 22 #[m.v] w fun e w' => e = .returned (.bool (formR m.pl)) ∧ Below w.heap.size w w' := by
  have HQ := hide (formQ_iff m w hR)
  obtain ⟨R, hRR⟩ : ∃ R, formR m.pl = R := ⟨_, rfl⟩
  rw [hRR] at HQ ⊢
  clear hRR
  obtain ⟨⟨S, Sn, Sc⟩, ⟨I, In, Ic⟩, ⟨F, Fn, Fc⟩, pg, mo, ⟨G, Gn, Gc⟩, ⟨E, En, Ec⟩, ⟨D, Dn, Dc⟩, sigs, imps, funs, glos, exps, dats⟩ := m
  have HX := hide hX
  have B0 := hide ((Below.refl w.heap.size w).alloc (Nat.le_refl _) (.cells #[.slice S Sn Sc, .slice I In Ic, .slice F Fn Fc, .int .i64 pg, .int .i64 mo, .slice G Gn Gc, .slice E En Ec, .slice D Dn Dc] 41))
  have HR0 := hide (hR.bel B0.out)
  have HK := hide (Blk.new w #[.slice S Sn Sc, .slice I In Ic, .slice F Fn Fc, .int .i64 pg, .int .i64 mo, .slice G Gn Gc, .slice E En Ec, .slice D Dn Dc] 41)
  skip
  have hSn : (Sn : Int) ≤ 1048576 := hX.S
  have hIn : (In : Int) ≤ 1048576 := hX.I
  have hFn : (Fn : Int) ≤ 1048576 := hX.F
  have hGn : (Gn : Int) ≤ 1048576 := hX.G
  have hEn : (En : Int) ≤ 1048576 := hX.E
  have hDn : (Dn : Int) ≤ 1048576 := hX.D
  have HRw := hide hR
  clear hR hX
  change Calls Tryz.prog 22 #[.agg #[.slice S Sn Sc, .slice I In Ic, .slice F Fn Fc, .int .i64 pg, .int .i64 mo, .slice G Gn Gc, .slice E En Ec, .slice D Dn Dc]] w _
  have HP := hide (fun W (hb : Below w.heap.size w W) => sParts ⟨(S, Sn, Sc), (I, In, Ic), (F, Fn, Fc), pg, mo, (G, Gn, Gc), (E, En, Ec), (D, Dn, Dc), sigs, imps, funs, glos, exps, dats⟩ W (HRw.out.bel hb) HX.out)
  have HPQ := hide (partsQ_iff ⟨(S, Sn, Sc), (I, In, Ic), (F, Fn, Fc), pg, mo, (G, Gn, Gc), (E, En, Ec), (D, Dn, Dc), sigs, imps, funs, glos, exps, dats⟩ w HRw.out)
  obtain ⟨RP, hRP⟩ : ∃ RP, partsR (MV.pl ⟨(S, Sn, Sc), (I, In, Ic), (F, Fn, Fc), pg, mo, (G, Gn, Gc), (E, En, Ec), (D, Dn, Dc), sigs, imps, funs, glos, exps, dats⟩) = RP := ⟨_, rfl⟩
  rw [hRP] at HPQ
  have HPc : Hid (∀ W, Below w.heap.size w W → Calls Tryz.prog 74 #[.agg #[.slice S Sn Sc, .slice I In Ic, .slice F Fn Fc, .int .i64 pg, .int .i64 mo, .slice G Gn Gc, .slice E En Ec, .slice D Dn Dc]] W fun e w' => e = .returned (.bool RP) ∧ Below W.heap.size W w') := hide (fun W hb => by have h := HP.out W hb; rw [hRP] at h; exact h)
  clear hRP HP
  cases RP
  · have hR : R = false := no_of HQ (fun h => by have := HPQ.out.2 h.P; cases this)
    subst hR
    go_enter Tryz.func22, Tryz.ntmps22
    go_wp2_with fail
    refine (HPc.out _ B0.out).mono ?_
    rintro e v ⟨rfl, hb⟩
    have HD := hide (bel_step B0.out hb B0.out.size)
    clear hb
    go_wp2_with fail
    go_ret
    exact ⟨rfl, HD.out⟩
  have HPT := hide (HPQ.out.1 rfl)
  clear HPQ
  by_cases hp1 : pg < -1
  · skip
    have hR : R = false := no_of HQ (fun h => by have := h.pg; simp only [pagesR, inR, Bool.and_eq_true, decide_eq_true_eq] at this; omega)
    subst hR
    skip
    go_enter Tryz.func22, Tryz.ntmps22
    go_wp2_with fail
    refine (HPc.out _ B0.out).mono ?_
    rintro e v ⟨rfl, hb⟩
    have HD0 := hide hb
    have HD := hide (bel_step B0.out hb B0.out.size)
    have p0 : v.cell? ⟨w.heap.size, 0, none⟩ = some (.slice S Sn Sc) := (HK.out.bel hb).cell 0
    have p1 : v.cell? ⟨w.heap.size, 1, none⟩ = some (.slice I In Ic) := (HK.out.bel hb).cell 1
    have p2 : v.cell? ⟨w.heap.size, 2, none⟩ = some (.slice F Fn Fc) := (HK.out.bel hb).cell 2
    have p3 : v.cell? ⟨w.heap.size, 3, none⟩ = some (.int .i64 pg) := (HK.out.bel hb).cell 3
    have p4 : v.cell? ⟨w.heap.size, 4, none⟩ = some (.int .i64 mo) := (HK.out.bel hb).cell 4
    have p5 : v.cell? ⟨w.heap.size, 5, none⟩ = some (.slice G Gn Gc) := (HK.out.bel hb).cell 5
    have p6 : v.cell? ⟨w.heap.size, 6, none⟩ = some (.slice E En Ec) := (HK.out.bel hb).cell 6
    have p7 : v.cell? ⟨w.heap.size, 7, none⟩ = some (.slice D Dn Dc) := (HK.out.bel hb).cell 7
    clear hb
    go_wp2_with fail
    go_ret
    exact ⟨rfl, HD.out⟩
  by_cases hp2 : 2 < pg
  · have hp1' : -1 ≤ pg := by omega
    have hR : R = false := no_of HQ (fun h => by have := h.pg; simp only [pagesR, inR, Bool.and_eq_true, decide_eq_true_eq] at this; omega)
    subst hR
    skip
    go_enter Tryz.func22, Tryz.ntmps22
    go_wp2_with fail
    refine (HPc.out _ B0.out).mono ?_
    rintro e v ⟨rfl, hb⟩
    have HD0 := hide hb
    have HD := hide (bel_step B0.out hb B0.out.size)
    have p0 : v.cell? ⟨w.heap.size, 0, none⟩ = some (.slice S Sn Sc) := (HK.out.bel hb).cell 0
    have p1 : v.cell? ⟨w.heap.size, 1, none⟩ = some (.slice I In Ic) := (HK.out.bel hb).cell 1
    have p2 : v.cell? ⟨w.heap.size, 2, none⟩ = some (.slice F Fn Fc) := (HK.out.bel hb).cell 2
    have p3 : v.cell? ⟨w.heap.size, 3, none⟩ = some (.int .i64 pg) := (HK.out.bel hb).cell 3
    have p4 : v.cell? ⟨w.heap.size, 4, none⟩ = some (.int .i64 mo) := (HK.out.bel hb).cell 4
    have p5 : v.cell? ⟨w.heap.size, 5, none⟩ = some (.slice G Gn Gc) := (HK.out.bel hb).cell 5
    have p6 : v.cell? ⟨w.heap.size, 6, none⟩ = some (.slice E En Ec) := (HK.out.bel hb).cell 6
    have p7 : v.cell? ⟨w.heap.size, 7, none⟩ = some (.slice D Dn Dc) := (HK.out.bel hb).cell 7
    clear hb
    go_wp2_with fail
    go_ret
    exact ⟨rfl, HD.out⟩
  have hpg1 : -1 ≤ pg := by omega
  have hpg2 : pg ≤ 2 := by omega
  clear hp1 hp2
  have hd1 : decide (pg < -1) = false := decide_eq_false (by omega)
  have hd2 : decide (2 < pg) = false := decide_eq_false (by omega)
  by_cases hm : mo = -1 ∨ (pg ≠ -1 ∧ pg ≤ mo ∧ mo ≤ 65536)
  rotate_left
  · have hmo : ¬ mo = -1 := by omega
    have hmb : (mo == -1) = false := by simpa using hmo
    by_cases hp : pg = -1
    · subst hp
      have hR : R = false := no_of HQ (fun h => by have := h.pg; simp only [pagesR, inR, Bool.and_eq_true, decide_eq_true_eq] at this; omega)
      subst hR
      skip
      go_enter Tryz.func22, Tryz.ntmps22
      go_wp2_with fail
      refine (HPc.out _ B0.out).mono ?_
      rintro e v ⟨rfl, hb⟩
      have HD0 := hide hb
      have HD := hide (bel_step B0.out hb B0.out.size)
      have p0 : v.cell? ⟨w.heap.size, 0, none⟩ = some (.slice S Sn Sc) := (HK.out.bel hb).cell 0
      have p1 : v.cell? ⟨w.heap.size, 1, none⟩ = some (.slice I In Ic) := (HK.out.bel hb).cell 1
      have p2 : v.cell? ⟨w.heap.size, 2, none⟩ = some (.slice F Fn Fc) := (HK.out.bel hb).cell 2
      have p3 : v.cell? ⟨w.heap.size, 3, none⟩ = some (.int .i64 (-1)) := (HK.out.bel hb).cell 3
      have p4 : v.cell? ⟨w.heap.size, 4, none⟩ = some (.int .i64 mo) := (HK.out.bel hb).cell 4
      have p5 : v.cell? ⟨w.heap.size, 5, none⟩ = some (.slice G Gn Gc) := (HK.out.bel hb).cell 5
      have p6 : v.cell? ⟨w.heap.size, 6, none⟩ = some (.slice E En Ec) := (HK.out.bel hb).cell 6
      have p7 : v.cell? ⟨w.heap.size, 7, none⟩ = some (.slice D Dn Dc) := (HK.out.bel hb).cell 7
      clear hb
      go_wp2_with fail
      go_ret
      exact ⟨rfl, HD.out⟩
    · have hpb : (pg == -1) = false := by simpa using hp
      by_cases hl : mo < pg
      · have hd3 : decide (mo < pg) = true := decide_eq_true hl
        have hR : R = false := no_of HQ (fun h => by have := h.pg; simp only [pagesR, inR, Bool.and_eq_true, decide_eq_true_eq] at this; omega)
        subst hR
        skip
        go_enter Tryz.func22, Tryz.ntmps22
        go_wp2_with fail
        refine (HPc.out _ B0.out).mono ?_
        rintro e v ⟨rfl, hb⟩
        have HD0 := hide hb
        have HD := hide (bel_step B0.out hb B0.out.size)
        have p0 : v.cell? ⟨w.heap.size, 0, none⟩ = some (.slice S Sn Sc) := (HK.out.bel hb).cell 0
        have p1 : v.cell? ⟨w.heap.size, 1, none⟩ = some (.slice I In Ic) := (HK.out.bel hb).cell 1
        have p2 : v.cell? ⟨w.heap.size, 2, none⟩ = some (.slice F Fn Fc) := (HK.out.bel hb).cell 2
        have p3 : v.cell? ⟨w.heap.size, 3, none⟩ = some (.int .i64 pg) := (HK.out.bel hb).cell 3
        have p4 : v.cell? ⟨w.heap.size, 4, none⟩ = some (.int .i64 mo) := (HK.out.bel hb).cell 4
        have p5 : v.cell? ⟨w.heap.size, 5, none⟩ = some (.slice G Gn Gc) := (HK.out.bel hb).cell 5
        have p6 : v.cell? ⟨w.heap.size, 6, none⟩ = some (.slice E En Ec) := (HK.out.bel hb).cell 6
        have p7 : v.cell? ⟨w.heap.size, 7, none⟩ = some (.slice D Dn Dc) := (HK.out.bel hb).cell 7
        clear hb
        go_wp2_with fail
        go_ret
        exact ⟨rfl, HD.out⟩
      · have hl' : pg ≤ mo := by omega
        have hg : 65536 < mo := by omega
        have hd3 : decide (mo < pg) = false := decide_eq_false hl
        have hd4 : decide (65536 < mo) = true := decide_eq_true hg
        have hR : R = false := no_of HQ (fun h => by have := h.pg; simp only [pagesR, inR, Bool.and_eq_true, decide_eq_true_eq] at this; omega)
        subst hR
        skip
        go_enter Tryz.func22, Tryz.ntmps22
        go_wp2_with fail
        refine (HPc.out _ B0.out).mono ?_
        rintro e v ⟨rfl, hb⟩
        have HD0 := hide hb
        have HD := hide (bel_step B0.out hb B0.out.size)
        have p0 : v.cell? ⟨w.heap.size, 0, none⟩ = some (.slice S Sn Sc) := (HK.out.bel hb).cell 0
        have p1 : v.cell? ⟨w.heap.size, 1, none⟩ = some (.slice I In Ic) := (HK.out.bel hb).cell 1
        have p2 : v.cell? ⟨w.heap.size, 2, none⟩ = some (.slice F Fn Fc) := (HK.out.bel hb).cell 2
        have p3 : v.cell? ⟨w.heap.size, 3, none⟩ = some (.int .i64 pg) := (HK.out.bel hb).cell 3
        have p4 : v.cell? ⟨w.heap.size, 4, none⟩ = some (.int .i64 mo) := (HK.out.bel hb).cell 4
        have p5 : v.cell? ⟨w.heap.size, 5, none⟩ = some (.slice G Gn Gc) := (HK.out.bel hb).cell 5
        have p6 : v.cell? ⟨w.heap.size, 6, none⟩ = some (.slice E En Ec) := (HK.out.bel hb).cell 6
        have p7 : v.cell? ⟨w.heap.size, 7, none⟩ = some (.slice D Dn Dc) := (HK.out.bel hb).cell 7
        clear hb
        go_wp2_with fail
        go_ret
        exact ⟨rfl, HD.out⟩
  have HPG := hide (show pagesR pg mo = true by unfold pagesR inR; rw [decide_eq_true ⟨hpg1, hpg2⟩, decide_eq_true hm]; rfl)
  by_cases ht0 : 30 < (Gn : Int)
  · have hR : R = false := no_of HQ (fun h => by have := h.a3; simp only [] at this; omega)
    subst hR
    go_enter Tryz.func22, Tryz.ntmps22
    go_upto_region 1 with fail
    go_cut [48] from 9 to 48 (fun c wx => c = .bool false ∧ Hid (Below w.heap.size w wx) ∧ Hid (Blk wx w.heap.size #[.slice S Sn Sc, .slice I In Ic, .slice F Fn Fc, .int .i64 pg, .int .i64 mo, .slice G Gn Gc, .slice E En Ec, .slice D Dn Dc] 41))
    case first =>
      rcases hm with hm | ⟨hp, hl, hh⟩
      · subst hm
        by_cases hp : pg = -1
        · subst hp
          go_wp2_with fail
          refine (HPc.out _ B0.out).mono ?_
          rintro e v ⟨rfl, hb⟩
          have HD := hide (bel_step B0.out hb B0.out.size)
          have HKv := hide (HK.out.bel hb)
          have p0 : v.cell? ⟨w.heap.size, 0, none⟩ = some (.slice S Sn Sc) := (HK.out.bel hb).cell 0
          have p1 : v.cell? ⟨w.heap.size, 1, none⟩ = some (.slice I In Ic) := (HK.out.bel hb).cell 1
          have p2 : v.cell? ⟨w.heap.size, 2, none⟩ = some (.slice F Fn Fc) := (HK.out.bel hb).cell 2
          have p3 : v.cell? ⟨w.heap.size, 3, none⟩ = some (.int .i64 (-1)) := (HK.out.bel hb).cell 3
          have p4 : v.cell? ⟨w.heap.size, 4, none⟩ = some (.int .i64 (-1)) := (HK.out.bel hb).cell 4
          have p5 : v.cell? ⟨w.heap.size, 5, none⟩ = some (.slice G Gn Gc) := (HK.out.bel hb).cell 5
          have p6 : v.cell? ⟨w.heap.size, 6, none⟩ = some (.slice E En Ec) := (HK.out.bel hb).cell 6
          have p7 : v.cell? ⟨w.heap.size, 7, none⟩ = some (.slice D Dn Dc) := (HK.out.bel hb).cell 7
          clear hb
          go_wp2_with fail
          go_meet
          exact ⟨rfl, HD, HKv⟩
        · have hpb : (pg == -1) = false := by simpa using hp
          go_wp2_with fail
          refine (HPc.out _ B0.out).mono ?_
          rintro e v ⟨rfl, hb⟩
          have HD := hide (bel_step B0.out hb B0.out.size)
          have HKv := hide (HK.out.bel hb)
          have p0 : v.cell? ⟨w.heap.size, 0, none⟩ = some (.slice S Sn Sc) := (HK.out.bel hb).cell 0
          have p1 : v.cell? ⟨w.heap.size, 1, none⟩ = some (.slice I In Ic) := (HK.out.bel hb).cell 1
          have p2 : v.cell? ⟨w.heap.size, 2, none⟩ = some (.slice F Fn Fc) := (HK.out.bel hb).cell 2
          have p3 : v.cell? ⟨w.heap.size, 3, none⟩ = some (.int .i64 pg) := (HK.out.bel hb).cell 3
          have p4 : v.cell? ⟨w.heap.size, 4, none⟩ = some (.int .i64 (-1)) := (HK.out.bel hb).cell 4
          have p5 : v.cell? ⟨w.heap.size, 5, none⟩ = some (.slice G Gn Gc) := (HK.out.bel hb).cell 5
          have p6 : v.cell? ⟨w.heap.size, 6, none⟩ = some (.slice E En Ec) := (HK.out.bel hb).cell 6
          have p7 : v.cell? ⟨w.heap.size, 7, none⟩ = some (.slice D Dn Dc) := (HK.out.bel hb).cell 7
          clear hb
          go_wp2_with fail
          go_meet
          exact ⟨rfl, HD, HKv⟩
      · have hpb : (pg == -1) = false := by simpa using hp
        have hmo : ¬ mo = -1 := by omega
        have hmb : (mo == -1) = false := by simpa using hmo
        have hd3 : decide (mo < pg) = false := decide_eq_false (by omega)
        have hd4 : decide (65536 < mo) = false := decide_eq_false (by omega)
        go_wp2_with fail
        refine (HPc.out _ B0.out).mono ?_
        rintro e v ⟨rfl, hb⟩
        have HD := hide (bel_step B0.out hb B0.out.size)
        have HKv := hide (HK.out.bel hb)
        have p0 : v.cell? ⟨w.heap.size, 0, none⟩ = some (.slice S Sn Sc) := (HK.out.bel hb).cell 0
        have p1 : v.cell? ⟨w.heap.size, 1, none⟩ = some (.slice I In Ic) := (HK.out.bel hb).cell 1
        have p2 : v.cell? ⟨w.heap.size, 2, none⟩ = some (.slice F Fn Fc) := (HK.out.bel hb).cell 2
        have p3 : v.cell? ⟨w.heap.size, 3, none⟩ = some (.int .i64 pg) := (HK.out.bel hb).cell 3
        have p4 : v.cell? ⟨w.heap.size, 4, none⟩ = some (.int .i64 mo) := (HK.out.bel hb).cell 4
        have p5 : v.cell? ⟨w.heap.size, 5, none⟩ = some (.slice G Gn Gc) := (HK.out.bel hb).cell 5
        have p6 : v.cell? ⟨w.heap.size, 6, none⟩ = some (.slice E En Ec) := (HK.out.bel hb).cell 6
        have p7 : v.cell? ⟨w.heap.size, 7, none⟩ = some (.slice D Dn Dc) := (HK.out.bel hb).cell 7
        clear hb
        go_wp2_with fail
        go_meet
        exact ⟨rfl, HD, HKv⟩
    case rest =>
      obtain ⟨rfl, HBc, HKc⟩ := hcut
      have p5 : wc.cell? ⟨w.heap.size, 5, none⟩ = some (.slice G Gn Gc) := HKc.out.cell 5
      have p6 : wc.cell? ⟨w.heap.size, 6, none⟩ = some (.slice E En Ec) := HKc.out.cell 6
      have p7 : wc.cell? ⟨w.heap.size, 7, none⟩ = some (.slice D Dn Dc) := HKc.out.cell 7
      go_wp2_with fail
      go_ret
      exact ⟨rfl, HBc.out⟩
  have hu0 : (Gn : Int) ≤ 30 := by omega
  clear ht0
  by_cases ht1 : 60 < (En : Int)
  · have hR : R = false := no_of HQ (fun h => by have := h.a4; simp only [] at this; omega)
    subst hR
    go_enter Tryz.func22, Tryz.ntmps22
    go_upto_region 1 with fail
    go_cut [48] from 9 to 48 (fun c wx => c = .bool false ∧ Hid (Below w.heap.size w wx) ∧ Hid (Blk wx w.heap.size #[.slice S Sn Sc, .slice I In Ic, .slice F Fn Fc, .int .i64 pg, .int .i64 mo, .slice G Gn Gc, .slice E En Ec, .slice D Dn Dc] 41))
    case first =>
      rcases hm with hm | ⟨hp, hl, hh⟩
      · subst hm
        by_cases hp : pg = -1
        · subst hp
          go_wp2_with fail
          refine (HPc.out _ B0.out).mono ?_
          rintro e v ⟨rfl, hb⟩
          have HD := hide (bel_step B0.out hb B0.out.size)
          have HKv := hide (HK.out.bel hb)
          have p0 : v.cell? ⟨w.heap.size, 0, none⟩ = some (.slice S Sn Sc) := (HK.out.bel hb).cell 0
          have p1 : v.cell? ⟨w.heap.size, 1, none⟩ = some (.slice I In Ic) := (HK.out.bel hb).cell 1
          have p2 : v.cell? ⟨w.heap.size, 2, none⟩ = some (.slice F Fn Fc) := (HK.out.bel hb).cell 2
          have p3 : v.cell? ⟨w.heap.size, 3, none⟩ = some (.int .i64 (-1)) := (HK.out.bel hb).cell 3
          have p4 : v.cell? ⟨w.heap.size, 4, none⟩ = some (.int .i64 (-1)) := (HK.out.bel hb).cell 4
          have p5 : v.cell? ⟨w.heap.size, 5, none⟩ = some (.slice G Gn Gc) := (HK.out.bel hb).cell 5
          have p6 : v.cell? ⟨w.heap.size, 6, none⟩ = some (.slice E En Ec) := (HK.out.bel hb).cell 6
          have p7 : v.cell? ⟨w.heap.size, 7, none⟩ = some (.slice D Dn Dc) := (HK.out.bel hb).cell 7
          clear hb
          go_wp2_with fail
          go_meet
          exact ⟨rfl, HD, HKv⟩
        · have hpb : (pg == -1) = false := by simpa using hp
          go_wp2_with fail
          refine (HPc.out _ B0.out).mono ?_
          rintro e v ⟨rfl, hb⟩
          have HD := hide (bel_step B0.out hb B0.out.size)
          have HKv := hide (HK.out.bel hb)
          have p0 : v.cell? ⟨w.heap.size, 0, none⟩ = some (.slice S Sn Sc) := (HK.out.bel hb).cell 0
          have p1 : v.cell? ⟨w.heap.size, 1, none⟩ = some (.slice I In Ic) := (HK.out.bel hb).cell 1
          have p2 : v.cell? ⟨w.heap.size, 2, none⟩ = some (.slice F Fn Fc) := (HK.out.bel hb).cell 2
          have p3 : v.cell? ⟨w.heap.size, 3, none⟩ = some (.int .i64 pg) := (HK.out.bel hb).cell 3
          have p4 : v.cell? ⟨w.heap.size, 4, none⟩ = some (.int .i64 (-1)) := (HK.out.bel hb).cell 4
          have p5 : v.cell? ⟨w.heap.size, 5, none⟩ = some (.slice G Gn Gc) := (HK.out.bel hb).cell 5
          have p6 : v.cell? ⟨w.heap.size, 6, none⟩ = some (.slice E En Ec) := (HK.out.bel hb).cell 6
          have p7 : v.cell? ⟨w.heap.size, 7, none⟩ = some (.slice D Dn Dc) := (HK.out.bel hb).cell 7
          clear hb
          go_wp2_with fail
          go_meet
          exact ⟨rfl, HD, HKv⟩
      · have hpb : (pg == -1) = false := by simpa using hp
        have hmo : ¬ mo = -1 := by omega
        have hmb : (mo == -1) = false := by simpa using hmo
        have hd3 : decide (mo < pg) = false := decide_eq_false (by omega)
        have hd4 : decide (65536 < mo) = false := decide_eq_false (by omega)
        go_wp2_with fail
        refine (HPc.out _ B0.out).mono ?_
        rintro e v ⟨rfl, hb⟩
        have HD := hide (bel_step B0.out hb B0.out.size)
        have HKv := hide (HK.out.bel hb)
        have p0 : v.cell? ⟨w.heap.size, 0, none⟩ = some (.slice S Sn Sc) := (HK.out.bel hb).cell 0
        have p1 : v.cell? ⟨w.heap.size, 1, none⟩ = some (.slice I In Ic) := (HK.out.bel hb).cell 1
        have p2 : v.cell? ⟨w.heap.size, 2, none⟩ = some (.slice F Fn Fc) := (HK.out.bel hb).cell 2
        have p3 : v.cell? ⟨w.heap.size, 3, none⟩ = some (.int .i64 pg) := (HK.out.bel hb).cell 3
        have p4 : v.cell? ⟨w.heap.size, 4, none⟩ = some (.int .i64 mo) := (HK.out.bel hb).cell 4
        have p5 : v.cell? ⟨w.heap.size, 5, none⟩ = some (.slice G Gn Gc) := (HK.out.bel hb).cell 5
        have p6 : v.cell? ⟨w.heap.size, 6, none⟩ = some (.slice E En Ec) := (HK.out.bel hb).cell 6
        have p7 : v.cell? ⟨w.heap.size, 7, none⟩ = some (.slice D Dn Dc) := (HK.out.bel hb).cell 7
        clear hb
        go_wp2_with fail
        go_meet
        exact ⟨rfl, HD, HKv⟩
    case rest =>
      obtain ⟨rfl, HBc, HKc⟩ := hcut
      have p5 : wc.cell? ⟨w.heap.size, 5, none⟩ = some (.slice G Gn Gc) := HKc.out.cell 5
      have p6 : wc.cell? ⟨w.heap.size, 6, none⟩ = some (.slice E En Ec) := HKc.out.cell 6
      have p7 : wc.cell? ⟨w.heap.size, 7, none⟩ = some (.slice D Dn Dc) := HKc.out.cell 7
      go_wp2_with fail
      go_ret
      exact ⟨rfl, HBc.out⟩
  have hu1 : (En : Int) ≤ 60 := by omega
  clear ht1
  by_cases ht2 : 20 < (Dn : Int)
  · have hR : R = false := no_of HQ (fun h => by have := h.a5; simp only [] at this; omega)
    subst hR
    go_enter Tryz.func22, Tryz.ntmps22
    go_upto_region 1 with fail
    go_cut [48] from 9 to 48 (fun c wx => c = .bool false ∧ Hid (Below w.heap.size w wx) ∧ Hid (Blk wx w.heap.size #[.slice S Sn Sc, .slice I In Ic, .slice F Fn Fc, .int .i64 pg, .int .i64 mo, .slice G Gn Gc, .slice E En Ec, .slice D Dn Dc] 41))
    case first =>
      rcases hm with hm | ⟨hp, hl, hh⟩
      · subst hm
        by_cases hp : pg = -1
        · subst hp
          go_wp2_with fail
          refine (HPc.out _ B0.out).mono ?_
          rintro e v ⟨rfl, hb⟩
          have HD := hide (bel_step B0.out hb B0.out.size)
          have HKv := hide (HK.out.bel hb)
          have p0 : v.cell? ⟨w.heap.size, 0, none⟩ = some (.slice S Sn Sc) := (HK.out.bel hb).cell 0
          have p1 : v.cell? ⟨w.heap.size, 1, none⟩ = some (.slice I In Ic) := (HK.out.bel hb).cell 1
          have p2 : v.cell? ⟨w.heap.size, 2, none⟩ = some (.slice F Fn Fc) := (HK.out.bel hb).cell 2
          have p3 : v.cell? ⟨w.heap.size, 3, none⟩ = some (.int .i64 (-1)) := (HK.out.bel hb).cell 3
          have p4 : v.cell? ⟨w.heap.size, 4, none⟩ = some (.int .i64 (-1)) := (HK.out.bel hb).cell 4
          have p5 : v.cell? ⟨w.heap.size, 5, none⟩ = some (.slice G Gn Gc) := (HK.out.bel hb).cell 5
          have p6 : v.cell? ⟨w.heap.size, 6, none⟩ = some (.slice E En Ec) := (HK.out.bel hb).cell 6
          have p7 : v.cell? ⟨w.heap.size, 7, none⟩ = some (.slice D Dn Dc) := (HK.out.bel hb).cell 7
          clear hb
          go_wp2_with fail
          go_meet
          exact ⟨rfl, HD, HKv⟩
        · have hpb : (pg == -1) = false := by simpa using hp
          go_wp2_with fail
          refine (HPc.out _ B0.out).mono ?_
          rintro e v ⟨rfl, hb⟩
          have HD := hide (bel_step B0.out hb B0.out.size)
          have HKv := hide (HK.out.bel hb)
          have p0 : v.cell? ⟨w.heap.size, 0, none⟩ = some (.slice S Sn Sc) := (HK.out.bel hb).cell 0
          have p1 : v.cell? ⟨w.heap.size, 1, none⟩ = some (.slice I In Ic) := (HK.out.bel hb).cell 1
          have p2 : v.cell? ⟨w.heap.size, 2, none⟩ = some (.slice F Fn Fc) := (HK.out.bel hb).cell 2
          have p3 : v.cell? ⟨w.heap.size, 3, none⟩ = some (.int .i64 pg) := (HK.out.bel hb).cell 3
          have p4 : v.cell? ⟨w.heap.size, 4, none⟩ = some (.int .i64 (-1)) := (HK.out.bel hb).cell 4
          have p5 : v.cell? ⟨w.heap.size, 5, none⟩ = some (.slice G Gn Gc) := (HK.out.bel hb).cell 5
          have p6 : v.cell? ⟨w.heap.size, 6, none⟩ = some (.slice E En Ec) := (HK.out.bel hb).cell 6
          have p7 : v.cell? ⟨w.heap.size, 7, none⟩ = some (.slice D Dn Dc) := (HK.out.bel hb).cell 7
          clear hb
          go_wp2_with fail
          go_meet
          exact ⟨rfl, HD, HKv⟩
      · have hpb : (pg == -1) = false := by simpa using hp
        have hmo : ¬ mo = -1 := by omega
        have hmb : (mo == -1) = false := by simpa using hmo
        have hd3 : decide (mo < pg) = false := decide_eq_false (by omega)
        have hd4 : decide (65536 < mo) = false := decide_eq_false (by omega)
        go_wp2_with fail
        refine (HPc.out _ B0.out).mono ?_
        rintro e v ⟨rfl, hb⟩
        have HD := hide (bel_step B0.out hb B0.out.size)
        have HKv := hide (HK.out.bel hb)
        have p0 : v.cell? ⟨w.heap.size, 0, none⟩ = some (.slice S Sn Sc) := (HK.out.bel hb).cell 0
        have p1 : v.cell? ⟨w.heap.size, 1, none⟩ = some (.slice I In Ic) := (HK.out.bel hb).cell 1
        have p2 : v.cell? ⟨w.heap.size, 2, none⟩ = some (.slice F Fn Fc) := (HK.out.bel hb).cell 2
        have p3 : v.cell? ⟨w.heap.size, 3, none⟩ = some (.int .i64 pg) := (HK.out.bel hb).cell 3
        have p4 : v.cell? ⟨w.heap.size, 4, none⟩ = some (.int .i64 mo) := (HK.out.bel hb).cell 4
        have p5 : v.cell? ⟨w.heap.size, 5, none⟩ = some (.slice G Gn Gc) := (HK.out.bel hb).cell 5
        have p6 : v.cell? ⟨w.heap.size, 6, none⟩ = some (.slice E En Ec) := (HK.out.bel hb).cell 6
        have p7 : v.cell? ⟨w.heap.size, 7, none⟩ = some (.slice D Dn Dc) := (HK.out.bel hb).cell 7
        clear hb
        go_wp2_with fail
        go_meet
        exact ⟨rfl, HD, HKv⟩
    case rest =>
      obtain ⟨rfl, HBc, HKc⟩ := hcut
      have p5 : wc.cell? ⟨w.heap.size, 5, none⟩ = some (.slice G Gn Gc) := HKc.out.cell 5
      have p6 : wc.cell? ⟨w.heap.size, 6, none⟩ = some (.slice E En Ec) := HKc.out.cell 6
      have p7 : wc.cell? ⟨w.heap.size, 7, none⟩ = some (.slice D Dn Dc) := HKc.out.cell 7
      go_wp2_with fail
      go_ret
      exact ⟨rfl, HBc.out⟩
  have hu2 : (Dn : Int) ≤ 20 := by omega
  clear ht2
  have HA3 := hide hu0
  have HA4 := hide hu1
  have HA5 := hide hu2
  go_enter Tryz.func22, Tryz.ntmps22
  go_upto_region 1 with fail
  go_cut [48] from 9 to 48 (fun c wx => c = .bool false ∧ Hid (Below w.heap.size w wx) ∧ Hid (Blk wx w.heap.size #[.slice S Sn Sc, .slice I In Ic, .slice F Fn Fc, .int .i64 pg, .int .i64 mo, .slice G Gn Gc, .slice E En Ec, .slice D Dn Dc] 41))
  case first =>
    rcases hm with hm | ⟨hp, hl, hh⟩
    · subst hm
      by_cases hp : pg = -1
      · subst hp
        go_wp2_with fail
        refine (HPc.out _ B0.out).mono ?_
        rintro e v ⟨rfl, hb⟩
        have HD := hide (bel_step B0.out hb B0.out.size)
        have HKv := hide (HK.out.bel hb)
        have p0 : v.cell? ⟨w.heap.size, 0, none⟩ = some (.slice S Sn Sc) := (HK.out.bel hb).cell 0
        have p1 : v.cell? ⟨w.heap.size, 1, none⟩ = some (.slice I In Ic) := (HK.out.bel hb).cell 1
        have p2 : v.cell? ⟨w.heap.size, 2, none⟩ = some (.slice F Fn Fc) := (HK.out.bel hb).cell 2
        have p3 : v.cell? ⟨w.heap.size, 3, none⟩ = some (.int .i64 (-1)) := (HK.out.bel hb).cell 3
        have p4 : v.cell? ⟨w.heap.size, 4, none⟩ = some (.int .i64 (-1)) := (HK.out.bel hb).cell 4
        have p5 : v.cell? ⟨w.heap.size, 5, none⟩ = some (.slice G Gn Gc) := (HK.out.bel hb).cell 5
        have p6 : v.cell? ⟨w.heap.size, 6, none⟩ = some (.slice E En Ec) := (HK.out.bel hb).cell 6
        have p7 : v.cell? ⟨w.heap.size, 7, none⟩ = some (.slice D Dn Dc) := (HK.out.bel hb).cell 7
        clear hb
        go_wp2_with fail
        go_meet
        exact ⟨rfl, HD, HKv⟩
      · have hpb : (pg == -1) = false := by simpa using hp
        go_wp2_with fail
        refine (HPc.out _ B0.out).mono ?_
        rintro e v ⟨rfl, hb⟩
        have HD := hide (bel_step B0.out hb B0.out.size)
        have HKv := hide (HK.out.bel hb)
        have p0 : v.cell? ⟨w.heap.size, 0, none⟩ = some (.slice S Sn Sc) := (HK.out.bel hb).cell 0
        have p1 : v.cell? ⟨w.heap.size, 1, none⟩ = some (.slice I In Ic) := (HK.out.bel hb).cell 1
        have p2 : v.cell? ⟨w.heap.size, 2, none⟩ = some (.slice F Fn Fc) := (HK.out.bel hb).cell 2
        have p3 : v.cell? ⟨w.heap.size, 3, none⟩ = some (.int .i64 pg) := (HK.out.bel hb).cell 3
        have p4 : v.cell? ⟨w.heap.size, 4, none⟩ = some (.int .i64 (-1)) := (HK.out.bel hb).cell 4
        have p5 : v.cell? ⟨w.heap.size, 5, none⟩ = some (.slice G Gn Gc) := (HK.out.bel hb).cell 5
        have p6 : v.cell? ⟨w.heap.size, 6, none⟩ = some (.slice E En Ec) := (HK.out.bel hb).cell 6
        have p7 : v.cell? ⟨w.heap.size, 7, none⟩ = some (.slice D Dn Dc) := (HK.out.bel hb).cell 7
        clear hb
        go_wp2_with fail
        go_meet
        exact ⟨rfl, HD, HKv⟩
    · have hpb : (pg == -1) = false := by simpa using hp
      have hmo : ¬ mo = -1 := by omega
      have hmb : (mo == -1) = false := by simpa using hmo
      have hd3 : decide (mo < pg) = false := decide_eq_false (by omega)
      have hd4 : decide (65536 < mo) = false := decide_eq_false (by omega)
      go_wp2_with fail
      refine (HPc.out _ B0.out).mono ?_
      rintro e v ⟨rfl, hb⟩
      have HD := hide (bel_step B0.out hb B0.out.size)
      have HKv := hide (HK.out.bel hb)
      have p0 : v.cell? ⟨w.heap.size, 0, none⟩ = some (.slice S Sn Sc) := (HK.out.bel hb).cell 0
      have p1 : v.cell? ⟨w.heap.size, 1, none⟩ = some (.slice I In Ic) := (HK.out.bel hb).cell 1
      have p2 : v.cell? ⟨w.heap.size, 2, none⟩ = some (.slice F Fn Fc) := (HK.out.bel hb).cell 2
      have p3 : v.cell? ⟨w.heap.size, 3, none⟩ = some (.int .i64 pg) := (HK.out.bel hb).cell 3
      have p4 : v.cell? ⟨w.heap.size, 4, none⟩ = some (.int .i64 mo) := (HK.out.bel hb).cell 4
      have p5 : v.cell? ⟨w.heap.size, 5, none⟩ = some (.slice G Gn Gc) := (HK.out.bel hb).cell 5
      have p6 : v.cell? ⟨w.heap.size, 6, none⟩ = some (.slice E En Ec) := (HK.out.bel hb).cell 6
      have p7 : v.cell? ⟨w.heap.size, 7, none⟩ = some (.slice D Dn Dc) := (HK.out.bel hb).cell 7
      clear hb
      go_wp2_with fail
      go_meet
      exact ⟨rfl, HD, HKv⟩
  case rest =>
    obtain ⟨rfl, HBc, HKc⟩ := hcut
    have p5 : wc.cell? ⟨w.heap.size, 5, none⟩ = some (.slice G Gn Gc) := HKc.out.cell 5
    have p6 : wc.cell? ⟨w.heap.size, 6, none⟩ = some (.slice E En Ec) := HKc.out.cell 6
    have p7 : wc.cell? ⟨w.heap.size, 7, none⟩ = some (.slice D Dn Dc) := HKc.out.cell 7
    have HRc := hide (HRw.out.bel HBc.out)
    go_wp2_with fail
    clear p5 p6 p7 HK B0 HR0
    have HDst := hide (Below.refl wc.heap.size wc)
    go_loopw [68] (fun i wr => ∃ k : Nat, k ≤ Gn ∧ i = .int .i64 k ∧ Hid (∀ j x, j < k → glos[j]? = some x → gloR x = true) ∧ Hid (Below wc.heap.size wc wr)) (fun i _ => Gn - (intOf i).toNat)
    case atStart => exact ⟨0, Nat.zero_le _, rfl, hide (fun j x hj => by omega), HDst⟩
    case round =>
      obtain ⟨k, hk, rfl, HO, HD⟩ := hrel
      have p0 : wr.cell? ⟨w.heap.size, 0, none⟩ = some (.slice S Sn Sc) := (HKc.out.bel HD.out).cell 0
      have hz : w.heap.size < wr.heap.size := Nat.lt_of_lt_of_le HKc.out.lt HD.out.size
      by_cases hlt : k < Gn
      · obtain ⟨b, off, x, rfl, hx, hbg, hcell⟩ := rd_get (wr := wr) gloL (by omega) HRc.out.G k hlt (fun p hp => HD.out.cell hp)
        have HXk := hide hx
        obtain ⟨u, i⟩ := x
        have hc0 : wr.cell? ⟨b, off + k * 2, none⟩ = some (.bool u) := hcell 0 _ rfl
        have hc1 : wr.cell? ⟨b, off + k * 2 + 1, none⟩ = some (.int .i64 i) := hcell 1 _ rfl
        have hi0 : (0 : Int) ≤ k := by omega
        have hi1 : (k : Int) < Gn := by omega
        have HDa := hide (HD.out.alloc HD.out.size (.cells #[.bool u, .int .i64 i] 87))
        have HEa := hide (Blk.new wr #[.bool u, .int .i64 i] 87)
        have pa : (wr.alloc (.cells #[.bool u, .int .i64 i] 87)).cell? ⟨w.heap.size, 0, none⟩ = some (.slice S Sn Sc) := (HKc.out.bel HDa.out).cell 0
        clear hcell hx
        obtain ⟨q0, hq0⟩ : ∃ q, inR (-2147483648) 2147483647 i = q := ⟨_, rfl⟩
        have hv0 := (in32_wrap i).trans hq0
        have C0 := hide (fun w => sWrap i w)
        obtain ⟨v0, hvv⟩ : ∃ v, wrap32 i = v := ⟨_, rfl⟩
        rw [hvv] at C0 hv0
        have Q0 := hide hq0
        have hw0 : (v0 != i) = !q0 := by rw [← hv0]; rfl
        clear hq0 hvv
        cases q0
        · skip
          have hR : R = false := by
            refine no_of HQ (fun h => ?_)
            have h1 := h.gl _ (List.mem_of_getElem? HXk.out)
            have h2 : gloR (u, i) = false := by simp [gloR, Q0.out]
            change gloR (u, i) = true at h1
            rw [h2] at h1
            cases h1
          subst hR
          go_wp2_with fail
          go_quiet ((go_at_call 75; refine (C0.out _).mono ?_; rintro e w' ⟨rfl, rfl⟩; exact ⟨rfl, _, rfl⟩))
          go_wp2_with fail
          go_ret
          exact ⟨rfl, HBc.out.trans (Below.mono (bel_drewN HDa.out _) HBc.out.size)⟩
        · skip
          have HO1 := hide (ok_step (p := gloR) HO.out HXk.out (show gloR (u, i) = true by simp [gloR, Q0.out]))
          go_wp2_with fail
          go_quiet ((go_at_call 75; refine (C0.out _).mono ?_; rintro e w' ⟨rfl, rfl⟩; exact ⟨rfl, _, rfl⟩))
          go_wp2_with fail
          go_roundw
          case rel =>
            first
            | exact ⟨k + 1, by omega, by go_num, HO1, hide (bel_drewN HDa.out _)⟩
          case measure => simp [intOf]; omega
      · obtain rfl : Gn = k := by omega
        have HAG := hide (ok_all (p := gloR) (rd_len gloL (by omega) HRc.out.G) HO.out)
        have HDG := HD
        have hkn : decide ((Gn : Int) < Gn) = false := decide_eq_false (by omega)
        clear HD HO hk p0
        have p6 : wr.cell? ⟨w.heap.size, 6, none⟩ = some (.slice E En Ec) := (HKc.out.bel HDG.out).cell 6
        go_wp2_with fail
        clear hkn
        go_loopw [82] (fun i wr => ∃ k : Nat, k ≤ En ∧ i = .int .i64 k ∧ Hid (∀ j x, j < k → exps[j]? = some x → expR x = true) ∧ Hid (Below wc.heap.size wc wr)) (fun i _ => En - (intOf i).toNat)
        case atStart => exact ⟨0, Nat.zero_le _, rfl, hide (fun j x hj => by omega), HDG⟩
        case round =>
          obtain ⟨k, hk, rfl, HO, HD⟩ := hrel
          have p0 : wr.cell? ⟨w.heap.size, 0, none⟩ = some (.slice S Sn Sc) := (HKc.out.bel HD.out).cell 0
          have hz : w.heap.size < wr.heap.size := Nat.lt_of_lt_of_le HKc.out.lt HD.out.size
          by_cases hlt : k < En
          · obtain ⟨b, off, x, rfl, hx, hbg, hcell⟩ := rd_get (wr := wr) expL (by omega) HRc.out.E k hlt (fun p hp => HD.out.cell hp)
            have HXk := hide hx
            have HXs := hide (HX.out.ES x (List.mem_of_getElem? hx))
            obtain ⟨a, c, i⟩ := x
            have hc0 : wr.cell? ⟨b, off + k * 3, none⟩ = some (.string a) := hcell 0 _ rfl
            have hc1 : wr.cell? ⟨b, off + k * 3 + 1, none⟩ = some (.int .i64 c) := hcell 1 _ rfl
            have hc2 : wr.cell? ⟨b, off + k * 3 + 2, none⟩ = some (.int .i64 i) := hcell 2 _ rfl
            have hi0 : (0 : Int) ≤ k := by omega
            have hi1 : (k : Int) < En := by omega
            have HDa := hide (HD.out.alloc HD.out.size (.cells #[.string a, .int .i64 c, .int .i64 i] 89))
            have HEa := hide (Blk.new wr #[.string a, .int .i64 c, .int .i64 i] 89)
            have pa : (wr.alloc (.cells #[.string a, .int .i64 c, .int .i64 i] 89)).cell? ⟨w.heap.size, 0, none⟩ = some (.slice S Sn Sc) := (HKc.out.bel HDa.out).cell 0
            clear hcell hx
            obtain ⟨q0, hq0⟩ : ∃ q, nameR a = q := ⟨_, rfl⟩
            have C0 := hide (fun w => sName a w HXs.out)
            rw [hq0] at C0
            have Q0 := hide hq0
            clear hq0
            cases q0
            · skip
              have hR : R = false := by
                refine no_of HQ (fun h => ?_)
                have h1 := h.ex _ (List.mem_of_getElem? HXk.out)
                have h2 : expR (a, c, i) = false := by simp [expR, Q0.out]
                change expR (a, c, i) = true at h1
                rw [h2] at h1
                cases h1
              subst hR
              go_wp2_with fail
              refine (C0.out _).mono ?_
              rintro e v1 ⟨rfl, hb⟩
              have HDv1 := hide (bel_step HDa.out hb HDa.out.size)
              have HEv1 := hide (HEa.out.bel hb)
              have p01 : v1.cell? ⟨w.heap.size, 0, none⟩ = some (.slice S Sn Sc) := (HKc.out.bel HDv1.out).cell 0
              have e10 : v1.cell? ⟨wr.heap.size, 0, none⟩ = some (.string a) := HEv1.out.cell 0
              have e11 : v1.cell? ⟨wr.heap.size, 1, none⟩ = some (.int .i64 c) := HEv1.out.cell 1
              have e12 : v1.cell? ⟨wr.heap.size, 2, none⟩ = some (.int .i64 i) := HEv1.out.cell 2
              clear hb
              go_wp2_with fail
              go_ret
              exact ⟨rfl, HBc.out.trans (Below.mono HDv1.out HBc.out.size)⟩
            · skip
              by_cases hk0 : c = 0
              · subst hk0
                have HKd := hide (show kindR 0 = true from decide_eq_true (by omega))
                by_cases hc_2 : i < 0
                · skip
                  have hR : R = false := by
                    refine no_of HQ (fun h => ?_)
                    have h1 := h.ex _ (List.mem_of_getElem? HXk.out)
                    have h2 : expR (a, 0, i) = false := by simp [expR, Q0.out, HKd.out, inR_lo (hi := 1000) hc_2]
                    change expR (a, 0, i) = true at h1
                    rw [h2] at h1
                    cases h1
                  subst hR
                  go_wp2_with fail
                  refine (C0.out _).mono ?_
                  rintro e v1 ⟨rfl, hb⟩
                  have HDv1 := hide (bel_step HDa.out hb HDa.out.size)
                  have HEv1 := hide (HEa.out.bel hb)
                  have p01 : v1.cell? ⟨w.heap.size, 0, none⟩ = some (.slice S Sn Sc) := (HKc.out.bel HDv1.out).cell 0
                  have e10 : v1.cell? ⟨wr.heap.size, 0, none⟩ = some (.string a) := HEv1.out.cell 0
                  have e11 : v1.cell? ⟨wr.heap.size, 1, none⟩ = some (.int .i64 0) := HEv1.out.cell 1
                  have e12 : v1.cell? ⟨wr.heap.size, 2, none⟩ = some (.int .i64 i) := HEv1.out.cell 2
                  clear hb
                  go_wp2_with fail
                  go_ret
                  exact ⟨rfl, HBc.out.trans (Below.mono HDv1.out HBc.out.size)⟩
                · have hg_2 : 0 ≤ i := by omega
                  clear hc_2
                  by_cases hc_3 : 1000 < i
                  · skip
                    have hR : R = false := by
                      refine no_of HQ (fun h => ?_)
                      have h1 := h.ex _ (List.mem_of_getElem? HXk.out)
                      have h2 : expR (a, 0, i) = false := by simp [expR, Q0.out, HKd.out, inR_hi (lo := 0) hc_3]
                      change expR (a, 0, i) = true at h1
                      rw [h2] at h1
                      cases h1
                    subst hR
                    go_wp2_with fail
                    refine (C0.out _).mono ?_
                    rintro e v1 ⟨rfl, hb⟩
                    have HDv1 := hide (bel_step HDa.out hb HDa.out.size)
                    have HEv1 := hide (HEa.out.bel hb)
                    have p01 : v1.cell? ⟨w.heap.size, 0, none⟩ = some (.slice S Sn Sc) := (HKc.out.bel HDv1.out).cell 0
                    have e10 : v1.cell? ⟨wr.heap.size, 0, none⟩ = some (.string a) := HEv1.out.cell 0
                    have e11 : v1.cell? ⟨wr.heap.size, 1, none⟩ = some (.int .i64 0) := HEv1.out.cell 1
                    have e12 : v1.cell? ⟨wr.heap.size, 2, none⟩ = some (.int .i64 i) := HEv1.out.cell 2
                    clear hb
                    go_wp2_with fail
                    go_ret
                    exact ⟨rfl, HBc.out.trans (Below.mono HDv1.out HBc.out.size)⟩
                  · have hg_3 : i ≤ 1000 := by omega
                    clear hc_3
                    have HO1 := hide (ok_step (p := expR) HO.out HXk.out (show expR (a, 0, i) = true by simp [expR, Q0.out, HKd.out, inR_t (lo := 0) hg_2 hg_3]))
                    go_wp2_with fail
                    refine (C0.out _).mono ?_
                    rintro e v1 ⟨rfl, hb⟩
                    have HDv1 := hide (bel_step HDa.out hb HDa.out.size)
                    have HEv1 := hide (HEa.out.bel hb)
                    have p01 : v1.cell? ⟨w.heap.size, 0, none⟩ = some (.slice S Sn Sc) := (HKc.out.bel HDv1.out).cell 0
                    have e10 : v1.cell? ⟨wr.heap.size, 0, none⟩ = some (.string a) := HEv1.out.cell 0
                    have e11 : v1.cell? ⟨wr.heap.size, 1, none⟩ = some (.int .i64 0) := HEv1.out.cell 1
                    have e12 : v1.cell? ⟨wr.heap.size, 2, none⟩ = some (.int .i64 i) := HEv1.out.cell 2
                    clear hb
                    go_wp2_with fail
                    go_roundw
                    case rel =>
                      first
                      | exact ⟨k + 1, by omega, by go_num, HO1, HDv1⟩
                    case measure => simp [intOf]; omega
              · skip
                have hkb0 : (c == 0) = false := by simpa using hk0
                by_cases hk2 : c = 2
                · subst hk2
                  have HKd := hide (show kindR 2 = true from decide_eq_true (by omega))
                  by_cases hc_2 : i < 0
                  · skip
                    have hR : R = false := by
                      refine no_of HQ (fun h => ?_)
                      have h1 := h.ex _ (List.mem_of_getElem? HXk.out)
                      have h2 : expR (a, 2, i) = false := by simp [expR, Q0.out, HKd.out, inR_lo (hi := 1000) hc_2]
                      change expR (a, 2, i) = true at h1
                      rw [h2] at h1
                      cases h1
                    subst hR
                    go_wp2_with fail
                    refine (C0.out _).mono ?_
                    rintro e v1 ⟨rfl, hb⟩
                    have HDv1 := hide (bel_step HDa.out hb HDa.out.size)
                    have HEv1 := hide (HEa.out.bel hb)
                    have p01 : v1.cell? ⟨w.heap.size, 0, none⟩ = some (.slice S Sn Sc) := (HKc.out.bel HDv1.out).cell 0
                    have e10 : v1.cell? ⟨wr.heap.size, 0, none⟩ = some (.string a) := HEv1.out.cell 0
                    have e11 : v1.cell? ⟨wr.heap.size, 1, none⟩ = some (.int .i64 2) := HEv1.out.cell 1
                    have e12 : v1.cell? ⟨wr.heap.size, 2, none⟩ = some (.int .i64 i) := HEv1.out.cell 2
                    clear hb
                    go_wp2_with fail
                    go_ret
                    exact ⟨rfl, HBc.out.trans (Below.mono HDv1.out HBc.out.size)⟩
                  · have hg_2 : 0 ≤ i := by omega
                    clear hc_2
                    by_cases hc_3 : 1000 < i
                    · skip
                      have hR : R = false := by
                        refine no_of HQ (fun h => ?_)
                        have h1 := h.ex _ (List.mem_of_getElem? HXk.out)
                        have h2 : expR (a, 2, i) = false := by simp [expR, Q0.out, HKd.out, inR_hi (lo := 0) hc_3]
                        change expR (a, 2, i) = true at h1
                        rw [h2] at h1
                        cases h1
                      subst hR
                      go_wp2_with fail
                      refine (C0.out _).mono ?_
                      rintro e v1 ⟨rfl, hb⟩
                      have HDv1 := hide (bel_step HDa.out hb HDa.out.size)
                      have HEv1 := hide (HEa.out.bel hb)
                      have p01 : v1.cell? ⟨w.heap.size, 0, none⟩ = some (.slice S Sn Sc) := (HKc.out.bel HDv1.out).cell 0
                      have e10 : v1.cell? ⟨wr.heap.size, 0, none⟩ = some (.string a) := HEv1.out.cell 0
                      have e11 : v1.cell? ⟨wr.heap.size, 1, none⟩ = some (.int .i64 2) := HEv1.out.cell 1
                      have e12 : v1.cell? ⟨wr.heap.size, 2, none⟩ = some (.int .i64 i) := HEv1.out.cell 2
                      clear hb
                      go_wp2_with fail
                      go_ret
                      exact ⟨rfl, HBc.out.trans (Below.mono HDv1.out HBc.out.size)⟩
                    · have hg_3 : i ≤ 1000 := by omega
                      clear hc_3
                      have HO1 := hide (ok_step (p := expR) HO.out HXk.out (show expR (a, 2, i) = true by simp [expR, Q0.out, HKd.out, inR_t (lo := 0) hg_2 hg_3]))
                      go_wp2_with fail
                      refine (C0.out _).mono ?_
                      rintro e v1 ⟨rfl, hb⟩
                      have HDv1 := hide (bel_step HDa.out hb HDa.out.size)
                      have HEv1 := hide (HEa.out.bel hb)
                      have p01 : v1.cell? ⟨w.heap.size, 0, none⟩ = some (.slice S Sn Sc) := (HKc.out.bel HDv1.out).cell 0
                      have e10 : v1.cell? ⟨wr.heap.size, 0, none⟩ = some (.string a) := HEv1.out.cell 0
                      have e11 : v1.cell? ⟨wr.heap.size, 1, none⟩ = some (.int .i64 2) := HEv1.out.cell 1
                      have e12 : v1.cell? ⟨wr.heap.size, 2, none⟩ = some (.int .i64 i) := HEv1.out.cell 2
                      clear hb
                      go_wp2_with fail
                      go_roundw
                      case rel =>
                        first
                        | exact ⟨k + 1, by omega, by go_num, HO1, HDv1⟩
                      case measure => simp [intOf]; omega
                · skip
                  have hkb2 : (c == 2) = false := by simpa using hk2
                  by_cases hk3 : c = 3
                  · subst hk3
                    have HKd := hide (show kindR 3 = true from decide_eq_true (by omega))
                    by_cases hc_2 : i < 0
                    · skip
                      have hR : R = false := by
                        refine no_of HQ (fun h => ?_)
                        have h1 := h.ex _ (List.mem_of_getElem? HXk.out)
                        have h2 : expR (a, 3, i) = false := by simp [expR, Q0.out, HKd.out, inR_lo (hi := 1000) hc_2]
                        change expR (a, 3, i) = true at h1
                        rw [h2] at h1
                        cases h1
                      subst hR
                      go_wp2_with fail
                      refine (C0.out _).mono ?_
                      rintro e v1 ⟨rfl, hb⟩
                      have HDv1 := hide (bel_step HDa.out hb HDa.out.size)
                      have HEv1 := hide (HEa.out.bel hb)
                      have p01 : v1.cell? ⟨w.heap.size, 0, none⟩ = some (.slice S Sn Sc) := (HKc.out.bel HDv1.out).cell 0
                      have e10 : v1.cell? ⟨wr.heap.size, 0, none⟩ = some (.string a) := HEv1.out.cell 0
                      have e11 : v1.cell? ⟨wr.heap.size, 1, none⟩ = some (.int .i64 3) := HEv1.out.cell 1
                      have e12 : v1.cell? ⟨wr.heap.size, 2, none⟩ = some (.int .i64 i) := HEv1.out.cell 2
                      clear hb
                      go_wp2_with fail
                      go_ret
                      exact ⟨rfl, HBc.out.trans (Below.mono HDv1.out HBc.out.size)⟩
                    · have hg_2 : 0 ≤ i := by omega
                      clear hc_2
                      by_cases hc_3 : 1000 < i
                      · skip
                        have hR : R = false := by
                          refine no_of HQ (fun h => ?_)
                          have h1 := h.ex _ (List.mem_of_getElem? HXk.out)
                          have h2 : expR (a, 3, i) = false := by simp [expR, Q0.out, HKd.out, inR_hi (lo := 0) hc_3]
                          change expR (a, 3, i) = true at h1
                          rw [h2] at h1
                          cases h1
                        subst hR
                        go_wp2_with fail
                        refine (C0.out _).mono ?_
                        rintro e v1 ⟨rfl, hb⟩
                        have HDv1 := hide (bel_step HDa.out hb HDa.out.size)
                        have HEv1 := hide (HEa.out.bel hb)
                        have p01 : v1.cell? ⟨w.heap.size, 0, none⟩ = some (.slice S Sn Sc) := (HKc.out.bel HDv1.out).cell 0
                        have e10 : v1.cell? ⟨wr.heap.size, 0, none⟩ = some (.string a) := HEv1.out.cell 0
                        have e11 : v1.cell? ⟨wr.heap.size, 1, none⟩ = some (.int .i64 3) := HEv1.out.cell 1
                        have e12 : v1.cell? ⟨wr.heap.size, 2, none⟩ = some (.int .i64 i) := HEv1.out.cell 2
                        clear hb
                        go_wp2_with fail
                        go_ret
                        exact ⟨rfl, HBc.out.trans (Below.mono HDv1.out HBc.out.size)⟩
                      · have hg_3 : i ≤ 1000 := by omega
                        clear hc_3
                        have HO1 := hide (ok_step (p := expR) HO.out HXk.out (show expR (a, 3, i) = true by simp [expR, Q0.out, HKd.out, inR_t (lo := 0) hg_2 hg_3]))
                        go_wp2_with fail
                        refine (C0.out _).mono ?_
                        rintro e v1 ⟨rfl, hb⟩
                        have HDv1 := hide (bel_step HDa.out hb HDa.out.size)
                        have HEv1 := hide (HEa.out.bel hb)
                        have p01 : v1.cell? ⟨w.heap.size, 0, none⟩ = some (.slice S Sn Sc) := (HKc.out.bel HDv1.out).cell 0
                        have e10 : v1.cell? ⟨wr.heap.size, 0, none⟩ = some (.string a) := HEv1.out.cell 0
                        have e11 : v1.cell? ⟨wr.heap.size, 1, none⟩ = some (.int .i64 3) := HEv1.out.cell 1
                        have e12 : v1.cell? ⟨wr.heap.size, 2, none⟩ = some (.int .i64 i) := HEv1.out.cell 2
                        clear hb
                        go_wp2_with fail
                        go_roundw
                        case rel =>
                          first
                          | exact ⟨k + 1, by omega, by go_num, HO1, HDv1⟩
                        case measure => simp [intOf]; omega
                  · skip
                    have hkb3 : (c == 3) = false := by simpa using hk3
                    have hR : R = false := by
                      refine no_of HQ (fun h => ?_)
                      have h1 := h.ex _ (List.mem_of_getElem? HXk.out)
                      have h2 : expR (a, c, i) = false := by simp [expR, Q0.out, (show kindR c = false from decide_eq_false (by omega))]
                      change expR (a, c, i) = true at h1
                      rw [h2] at h1
                      cases h1
                    subst hR
                    go_wp2_with fail
                    refine (C0.out _).mono ?_
                    rintro e v1 ⟨rfl, hb⟩
                    have HDv1 := hide (bel_step HDa.out hb HDa.out.size)
                    have HEv1 := hide (HEa.out.bel hb)
                    have p01 : v1.cell? ⟨w.heap.size, 0, none⟩ = some (.slice S Sn Sc) := (HKc.out.bel HDv1.out).cell 0
                    have e10 : v1.cell? ⟨wr.heap.size, 0, none⟩ = some (.string a) := HEv1.out.cell 0
                    have e11 : v1.cell? ⟨wr.heap.size, 1, none⟩ = some (.int .i64 c) := HEv1.out.cell 1
                    have e12 : v1.cell? ⟨wr.heap.size, 2, none⟩ = some (.int .i64 i) := HEv1.out.cell 2
                    clear hb
                    go_wp2_with fail
                    go_ret
                    exact ⟨rfl, HBc.out.trans (Below.mono HDv1.out HBc.out.size)⟩
          · obtain rfl : En = k := by omega
            have HAE := hide (ok_all (p := expR) (rd_len expL (by omega) HRc.out.E) HO.out)
            have HDE := HD
            have hkn : decide ((En : Int) < En) = false := decide_eq_false (by omega)
            clear HD HO hk p0
            have p7 : wr.cell? ⟨w.heap.size, 7, none⟩ = some (.slice D Dn Dc) := (HKc.out.bel HDE.out).cell 7
            go_wp2_with fail
            clear hkn
            go_loopw [119] (fun i wr => ∃ k : Nat, k ≤ Dn ∧ i = .int .i64 k ∧ Hid (∀ j x, j < k → dats[j]? = some x → datR x.pl = true) ∧ Hid (Below wc.heap.size wc wr)) (fun i _ => Dn - (intOf i).toNat)
            case atStart => exact ⟨0, Nat.zero_le _, rfl, hide (fun j x hj => by omega), HDE⟩
            case round =>
              obtain ⟨k, hk, rfl, HO, HD⟩ := hrel
              have p0 : wr.cell? ⟨w.heap.size, 0, none⟩ = some (.slice S Sn Sc) := (HKc.out.bel HD.out).cell 0
              have hz : w.heap.size < wr.heap.size := Nat.lt_of_lt_of_le HKc.out.lt HD.out.size
              by_cases hlt : k < Dn
              · obtain ⟨b, off, x, rfl, hx, hbg, hcell⟩ := rd_get (wr := wr) datL (by omega) HRc.out.D k hlt (fun p hp => HD.out.cell hp)
                have HXk := hide hx
                have HXb := hide (show _ ∧ _ from ⟨HRc.out.DB x (List.mem_of_getElem? hx), HX.out.DS x (List.mem_of_getElem? hx)⟩)
                obtain ⟨i, ⟨A2, n2, c2⟩, bs⟩ := x
                have hc0 : wr.cell? ⟨b, off + k * 2, none⟩ = some (.int .i64 i) := hcell 0 _ rfl
                have hc1 : wr.cell? ⟨b, off + k * 2 + 1, none⟩ = some (.slice A2 n2 c2) := hcell 1 _ rfl
                have hi0 : (0 : Int) ≤ k := by omega
                have hi1 : (k : Int) < Dn := by omega
                have HDa := hide (HD.out.alloc HD.out.size (.cells #[.int .i64 i, .slice A2 n2 c2] 93))
                have HEa := hide (Blk.new wr #[.int .i64 i, .slice A2 n2 c2] 93)
                have pa : (wr.alloc (.cells #[.int .i64 i, .slice A2 n2 c2] 93)).cell? ⟨w.heap.size, 0, none⟩ = some (.slice S Sn Sc) := (HKc.out.bel HDa.out).cell 0
                clear hcell hx
                have hbl : bs.length = n2 := rd_by8 HXb.out.1
                have hn2 : (n2 : Int) ≤ 1048576 := HXb.out.2
                have HBL := hide hbl
                clear hbl
                obtain ⟨q0, hq0⟩ : ∃ q, inR (-2147483648) 2147483647 i = q := ⟨_, rfl⟩
                have hv0 := (in32_wrap i).trans hq0
                have C0 := hide (fun w => sWrap i w)
                obtain ⟨v0, hvv⟩ : ∃ v, wrap32 i = v := ⟨_, rfl⟩
                rw [hvv] at C0 hv0
                have Q0 := hide hq0
                have hw0 : (v0 != i) = !q0 := by rw [← hv0]; rfl
                clear hq0 hvv
                cases q0
                · skip
                  have hR : R = false := by
                    refine no_of HQ (fun h => ?_)
                    have h1 := h.da _ (List.mem_of_getElem? HXk.out)
                    have h2 : datR (i, bs) = false := by simp [datR, Q0.out]
                    change datR (i, bs) = true at h1
                    rw [h2] at h1
                    cases h1
                  subst hR
                  have e0 : (wr.alloc (.cells #[.int .i64 i, .slice A2 n2 c2] 93)).drew.cell? ⟨wr.heap.size, 0, none⟩ = some (.int .i64 i) := HEa.out.cell 0
                  have e1 : (wr.alloc (.cells #[.int .i64 i, .slice A2 n2 c2] 93)).drew.cell? ⟨wr.heap.size, 1, none⟩ = some (.slice A2 n2 c2) := HEa.out.cell 1
                  go_wp2_with fail
                  go_quiet ((go_at_call 75; refine (C0.out _).mono ?_; rintro e w' ⟨rfl, rfl⟩; exact ⟨rfl, _, rfl⟩))
                  go_wp2_with fail
                  go_ret
                  exact ⟨rfl, HBc.out.trans (Below.mono (bel_drewN HDa.out _) HBc.out.size)⟩
                · skip
                  by_cases hc_1 : 2000 < (n2 : Int)
                  · skip
                    have hR : R = false := by
                      refine no_of HQ (fun h => ?_)
                      have h1 := h.da _ (List.mem_of_getElem? HXk.out)
                      have h2 : datR (i, bs) = false := by simp [datR, Q0.out, (show ¬ ((n2 : Int) ≤ 2000) by omega), HBL.out]
                      change datR (i, bs) = true at h1
                      rw [h2] at h1
                      cases h1
                    subst hR
                    have e0 : (wr.alloc (.cells #[.int .i64 i, .slice A2 n2 c2] 93)).drew.cell? ⟨wr.heap.size, 0, none⟩ = some (.int .i64 i) := HEa.out.cell 0
                    have e1 : (wr.alloc (.cells #[.int .i64 i, .slice A2 n2 c2] 93)).drew.cell? ⟨wr.heap.size, 1, none⟩ = some (.slice A2 n2 c2) := HEa.out.cell 1
                    go_wp2_with fail
                    go_quiet ((go_at_call 75; refine (C0.out _).mono ?_; rintro e w' ⟨rfl, rfl⟩; exact ⟨rfl, _, rfl⟩))
                    go_wp2_with fail
                    go_ret
                    exact ⟨rfl, HBc.out.trans (Below.mono (bel_drewN HDa.out _) HBc.out.size)⟩
                  · have hg_1 : (n2 : Int) ≤ 2000 := by omega
                    clear hc_1
                    have HO1 := hide (ok_step (p := (fun x : DV => datR x.pl)) HO.out HXk.out (show datR (i, bs) = true by simp [datR, Q0.out, (show (n2 : Int) ≤ 2000 by omega), HBL.out]))
                    have e0 : (wr.alloc (.cells #[.int .i64 i, .slice A2 n2 c2] 93)).drew.cell? ⟨wr.heap.size, 0, none⟩ = some (.int .i64 i) := HEa.out.cell 0
                    have e1 : (wr.alloc (.cells #[.int .i64 i, .slice A2 n2 c2] 93)).drew.cell? ⟨wr.heap.size, 1, none⟩ = some (.slice A2 n2 c2) := HEa.out.cell 1
                    go_wp2_with fail
                    go_quiet ((go_at_call 75; refine (C0.out _).mono ?_; rintro e w' ⟨rfl, rfl⟩; exact ⟨rfl, _, rfl⟩))
                    go_wp2_with fail
                    go_roundw
                    case rel =>
                      first
                      | exact ⟨k + 1, by omega, by go_num, HO1, hide (bel_drewN HDa.out _)⟩
                    case measure => simp [intOf]; omega
              · obtain rfl : Dn = k := by omega
                have HAD := hide (ok_all (p := (fun x : DV => datR x.pl)) (rd_len datL (by omega) HRc.out.D) HO.out)
                have HDD := HD
                have hkn : decide ((Dn : Int) < Dn) = false := decide_eq_false (by omega)
                clear HD HO hk p0
                have hR : R = true := yes_of HQ ⟨HPT.out, HPG.out, HA3.out, HA4.out, HA5.out, HAG.out, HAE.out, HAD.out⟩
                subst hR
                go_wp2_with fail
                go_ret
                exact ⟨rfl, HBc.out.trans (HDD.out.mono HBc.out.size)⟩
end Go.Proofs.YtiinkfejdnfonaaGreatDoor.Mo
