/- The law on SameModule, walked over its two contracts. -/
import Derived.Test.YtiinkfejdnfonaaGreatDoorFmC
import Derived.Test.YtiinkfejdnfonaaGreatDoorMoO
import Derived.Below
import Derived.StillTailTactics
import Derived.Deep.RegionHeld
namespace Go.Proofs.YtiinkfejdnfonaaGreatDoor
open Go.RowKit Go.Proofs.YtiinkfejdnfonaaGreatDoor.Num Go.Proofs.YtiinkfejdnfonaaGreatDoor.NumC Go.Proofs.YtiinkfejdnfonaaGreatDoor.Mem Go.Proofs.YtiinkfejdnfonaaGreatDoor.Utf Go.Proofs.YtiinkfejdnfonaaGreatDoor.Mo
set_option linter.unusedVariables false
set_option maxRecDepth 100000
set_option maxHeartbeats 8000000 in
theorem fnExactSameModule_core (a b : MV) (w : World) (R : Bool) (ha : a.Reads w) (hb : b.Reads w) (xa : a.Long 9223372036854775807) (xb : b.Long 9223372036854775807)
    (CS : Hid (∀ (p q : MV) (W : World), p.pl = a.pl → q.pl = b.pl → p.Reads W → q.Reads W → p.Long 1048576 → q.Long 1048576 → Calls Tryz.prog 14 #[p.v, q.v] W fun e W' => e = .returned (.bool R) ∧ Below W.heap.size W W'))
    (CI : Hid (∀ (p q : MV) (W : World), Below w.heap.size w W → p.pl = a.pl → q.pl = b.pl → p.Reads W → q.Reads W → p.Long 1048576 → q.Long 1048576 → Calls Tryz.prog 15 #[p.v, q.v] W fun e W' => e = .returned (.bool R) ∧ Below W.heap.size W W')) :
    Calls Tryz.prog 4 #[a.v, b.v] w fun e w' => e = .returned (.bool true) ∧ Below w.heap.size w w' := by
  obtain ⟨⟨Sa, Sna, Sca⟩, ⟨Ia, Ina, Ica⟩, ⟨Fa, Fna, Fca⟩, pga, moa, ⟨Ga, Gna, Gca⟩, ⟨Ea, Ena, Eca⟩, ⟨Da, Dna, Dca⟩, sigsa, impsa, funsa, glosa, expsa, datsa⟩ := a
  obtain ⟨⟨Sb, Snb, Scb⟩, ⟨Ib, Inb, Icb⟩, ⟨Fb, Fnb, Fcb⟩, pgb, mob, ⟨Gb, Gnb, Gcb⟩, ⟨Eb, Enb, Ecb⟩, ⟨Db, Dnb, Dcb⟩, sigsb, impsb, funsb, glosb, expsb, datsb⟩ := b
  have HRa := hide ha
  have HRb := hide hb
  have HXa := hide xa
  have HXb := hide xb
  have hnn : (R != R) = false := by simp
  have B0 := hide (show Below w.heap.size w ((w.alloc (.cells #[.slice Sa Sna Sca, .slice Ia Ina Ica, .slice Fa Fna Fca, .int .i64 pga, .int .i64 moa, .slice Ga Gna Gca, .slice Ea Ena Eca, .slice Da Dna Dca] 29)).alloc (.cells #[.slice Sb Snb Scb, .slice Ib Inb Icb, .slice Fb Fnb Fcb, .int .i64 pgb, .int .i64 mob, .slice Gb Gnb Gcb, .slice Eb Enb Ecb, .slice Db Dnb Dcb] 29)) from ((Below.refl w.heap.size w).alloc (Nat.le_refl _) _).alloc (by simp) _)
  have HKa := hide (show Blk ((w.alloc (.cells #[.slice Sa Sna Sca, .slice Ia Ina Ica, .slice Fa Fna Fca, .int .i64 pga, .int .i64 moa, .slice Ga Gna Gca, .slice Ea Ena Eca, .slice Da Dna Dca] 29)).alloc (.cells #[.slice Sb Snb Scb, .slice Ib Inb Icb, .slice Fb Fnb Fcb, .int .i64 pgb, .int .i64 mob, .slice Gb Gnb Gcb, .slice Eb Enb Ecb, .slice Db Dnb Dcb] 29)) w.heap.size #[.slice Sa Sna Sca, .slice Ia Ina Ica, .slice Fa Fna Fca, .int .i64 pga, .int .i64 moa, .slice Ga Gna Gca, .slice Ea Ena Eca, .slice Da Dna Dca] 29 from (Blk.new w _ _).alloc _)
  have HKb := hide (show Blk ((w.alloc (.cells #[.slice Sa Sna Sca, .slice Ia Ina Ica, .slice Fa Fna Fca, .int .i64 pga, .int .i64 moa, .slice Ga Gna Gca, .slice Ea Ena Eca, .slice Da Dna Dca] 29)).alloc (.cells #[.slice Sb Snb Scb, .slice Ib Inb Icb, .slice Fb Fnb Fcb, .int .i64 pgb, .int .i64 mob, .slice Gb Gnb Gcb, .slice Eb Enb Ecb, .slice Db Dnb Dcb] 29)) (w.heap.size + 1) #[.slice Sb Snb Scb, .slice Ib Inb Icb, .slice Fb Fnb Fcb, .int .i64 pgb, .int .i64 mob, .slice Gb Gnb Gcb, .slice Eb Enb Ecb, .slice Db Dnb Dcb] 29 by
    have h := Blk.new (w.alloc (.cells #[.slice Sa Sna Sca, .slice Ia Ina Ica, .slice Fa Fna Fca, .int .i64 pga, .int .i64 moa, .slice Ga Gna Gca, .slice Ea Ena Eca, .slice Da Dna Dca] 29)) #[.slice Sb Snb Scb, .slice Ib Inb Icb, .slice Fb Fnb Fcb, .int .i64 pgb, .int .i64 mob, .slice Gb Gnb Gcb, .slice Eb Enb Ecb, .slice Db Dnb Dcb] 29
    simpa using h)
  clear ha hb xa xb
  change Calls Tryz.prog 4 #[.agg #[.slice Sa Sna Sca, .slice Ia Ina Ica, .slice Fa Fna Fca, .int .i64 pga, .int .i64 moa, .slice Ga Gna Gca, .slice Ea Ena Eca, .slice Da Dna Dca], .agg #[.slice Sb Snb Scb, .slice Ib Inb Icb, .slice Fb Fnb Fcb, .int .i64 pgb, .int .i64 mob, .slice Gb Gnb Gcb, .slice Eb Enb Ecb, .slice Db Dnb Dcb]] w _
  go_enter Tryz.func4, Tryz.ntmps4
  go_wp2_with fail
  generalize (w.alloc (.cells #[.slice Sa Sna Sca, .slice Ia Ina Ica, .slice Fa Fna Fca, .int .i64 pga, .int .i64 moa, .slice Ga Gna Gca, .slice Ea Ena Eca, .slice Da Dna Dca] 29)).alloc (.cells #[.slice Sb Snb Scb, .slice Ib Inb Icb, .slice Fb Fnb Fcb, .int .i64 pgb, .int .i64 mob, .slice Gb Gnb Gcb, .slice Eb Enb Ecb, .slice Db Dnb Dcb] 29) = W0 at B0 HKa HKb ⊢
  refine (szModule_c (⟨(Sa, Sna, Sca), (Ia, Ina, Ica), (Fa, Fna, Fca), pga, moa, (Ga, Gna, Gca), (Ea, Ena, Eca), (Da, Dna, Dca), sigsa, impsa, funsa, glosa, expsa, datsa⟩ : MV) 1048576 W0 (HRa.out.bel B0.out) HXa.out (by omega) (by omega)).mono ?_
  rintro e w1 ⟨h, hb⟩
  have B1 := hide (bel_step B0.out hb B0.out.size)
  have Ka1 := hide (HKa.out.bel hb)
  have Kb1 := hide (HKb.out.bel hb)
  clear hb
  rcases h with rfl | ⟨r, hr0, hr1, hL, rfl⟩
  · go_wp2_with fail
    go_ret
    exact ⟨rfl, B1.out⟩
  have HLa := hide hL
  clear hL HXa B0 HKa HKb
  have p0 : w1.cell? ⟨w.heap.size + 1, 0, none⟩ = some (.slice Sb Snb Scb) := Kb1.out.cell 0
  have p1 : w1.cell? ⟨w.heap.size + 1, 1, none⟩ = some (.slice Ib Inb Icb) := Kb1.out.cell 1
  have p2 : w1.cell? ⟨w.heap.size + 1, 2, none⟩ = some (.slice Fb Fnb Fcb) := Kb1.out.cell 2
  have p3 : w1.cell? ⟨w.heap.size + 1, 3, none⟩ = some (.int .i64 pgb) := Kb1.out.cell 3
  have p4 : w1.cell? ⟨w.heap.size + 1, 4, none⟩ = some (.int .i64 mob) := Kb1.out.cell 4
  have p5 : w1.cell? ⟨w.heap.size + 1, 5, none⟩ = some (.slice Gb Gnb Gcb) := Kb1.out.cell 5
  have p6 : w1.cell? ⟨w.heap.size + 1, 6, none⟩ = some (.slice Eb Enb Ecb) := Kb1.out.cell 6
  have p7 : w1.cell? ⟨w.heap.size + 1, 7, none⟩ = some (.slice Db Dnb Dcb) := Kb1.out.cell 7
  go_wp2_with fail
  refine (szModule_c (⟨(Sb, Snb, Scb), (Ib, Inb, Icb), (Fb, Fnb, Fcb), pgb, mob, (Gb, Gnb, Gcb), (Eb, Enb, Ecb), (Db, Dnb, Dcb), sigsb, impsb, funsb, glosb, expsb, datsb⟩ : MV) r w1 (HRb.out.bel B1.out) HXb.out (by omega) (by omega)).mono ?_
  rintro e w2 ⟨h, hb⟩
  have B2 := hide (bel_step B1.out hb B1.out.size)
  have Ka2 := hide (Ka1.out.bel hb)
  have Kb2 := hide (Kb1.out.bel hb)
  clear hb p0 p1 p2 p3 p4 p5 p6 p7
  rcases h with rfl | ⟨r2, hr20, hr21, hL, rfl⟩
  · go_wp2_with fail
    go_ret
    exact ⟨rfl, B2.out⟩
  have HLb := hide hL
  clear hL HXb B1 Ka1 Kb1
  have HPc := hide (show ∀ W, Below w2.heap.size w2 W → W.cell? ⟨w.heap.size, 0, none⟩ = some (.slice Sa Sna Sca) ∧ W.cell? ⟨w.heap.size, 1, none⟩ = some (.slice Ia Ina Ica) ∧ W.cell? ⟨w.heap.size, 2, none⟩ = some (.slice Fa Fna Fca) ∧ W.cell? ⟨w.heap.size, 3, none⟩ = some (.int .i64 pga) ∧ W.cell? ⟨w.heap.size, 4, none⟩ = some (.int .i64 moa) ∧ W.cell? ⟨w.heap.size, 5, none⟩ = some (.slice Ga Gna Gca) ∧ W.cell? ⟨w.heap.size, 6, none⟩ = some (.slice Ea Ena Eca) ∧ W.cell? ⟨w.heap.size, 7, none⟩ = some (.slice Da Dna Dca) ∧ W.cell? ⟨w.heap.size + 1, 0, none⟩ = some (.slice Sb Snb Scb) ∧ W.cell? ⟨w.heap.size + 1, 1, none⟩ = some (.slice Ib Inb Icb) ∧ W.cell? ⟨w.heap.size + 1, 2, none⟩ = some (.slice Fb Fnb Fcb) ∧ W.cell? ⟨w.heap.size + 1, 3, none⟩ = some (.int .i64 pgb) ∧ W.cell? ⟨w.heap.size + 1, 4, none⟩ = some (.int .i64 mob) ∧ W.cell? ⟨w.heap.size + 1, 5, none⟩ = some (.slice Gb Gnb Gcb) ∧ W.cell? ⟨w.heap.size + 1, 6, none⟩ = some (.slice Eb Enb Ecb) ∧ W.cell? ⟨w.heap.size + 1, 7, none⟩ = some (.slice Db Dnb Dcb) from fun W D => ⟨(Ka2.out.bel D).cell 0, (Ka2.out.bel D).cell 1, (Ka2.out.bel D).cell 2, (Ka2.out.bel D).cell 3, (Ka2.out.bel D).cell 4, (Ka2.out.bel D).cell 5, (Ka2.out.bel D).cell 6, (Ka2.out.bel D).cell 7, (Kb2.out.bel D).cell 0, (Kb2.out.bel D).cell 1, (Kb2.out.bel D).cell 2, (Kb2.out.bel D).cell 3, (Kb2.out.bel D).cell 4, (Kb2.out.bel D).cell 5, (Kb2.out.bel D).cell 6, (Kb2.out.bel D).cell 7⟩)
  have DN := hide (show Below w2.heap.size w2 w2.drew from bel_drewN (Below.refl _ _) 1)
  go_wp2_with fail
  go_region_held (fun W => W.cell? ⟨w.heap.size, 0, none⟩ = some (.slice Sa Sna Sca) ∧ W.cell? ⟨w.heap.size, 1, none⟩ = some (.slice Ia Ina Ica) ∧ W.cell? ⟨w.heap.size, 2, none⟩ = some (.slice Fa Fna Fca) ∧ W.cell? ⟨w.heap.size, 3, none⟩ = some (.int .i64 pga) ∧ W.cell? ⟨w.heap.size, 4, none⟩ = some (.int .i64 moa) ∧ W.cell? ⟨w.heap.size, 5, none⟩ = some (.slice Ga Gna Gca) ∧ W.cell? ⟨w.heap.size, 6, none⟩ = some (.slice Ea Ena Eca) ∧ W.cell? ⟨w.heap.size, 7, none⟩ = some (.slice Da Dna Dca) ∧ W.cell? ⟨w.heap.size + 1, 0, none⟩ = some (.slice Sb Snb Scb) ∧ W.cell? ⟨w.heap.size + 1, 1, none⟩ = some (.slice Ib Inb Icb) ∧ W.cell? ⟨w.heap.size + 1, 2, none⟩ = some (.slice Fb Fnb Fcb) ∧ W.cell? ⟨w.heap.size + 1, 3, none⟩ = some (.int .i64 pgb) ∧ W.cell? ⟨w.heap.size + 1, 4, none⟩ = some (.int .i64 mob) ∧ W.cell? ⟨w.heap.size + 1, 5, none⟩ = some (.slice Gb Gnb Gcb) ∧ W.cell? ⟨w.heap.size + 1, 6, none⟩ = some (.slice Eb Enb Ecb) ∧ W.cell? ⟨w.heap.size + 1, 7, none⟩ = some (.slice Db Dnb Dcb)) (exact HPc.out _ DN.out) (first
    | (have hq := O4
       go_at_call 14
       refine (CS.out m3 m4 w4 HP3.out HP4.out O3.out O4.out L3.out L4.out).mono ?_
       rintro e w5 ⟨rfl, hb⟩
       replace DN := hide (bel_step DN.out hb DN.out.size)
       clear hb)
    | (have hq := O3
       go_at_call 7
       refine (toModule_c (⟨(Sb, Snb, Scb), (Ib, Inb, Icb), (Fb, Fnb, Fcb), pgb, mob, (Gb, Gnb, Gcb), (Eb, Enb, Ecb), (Db, Dnb, Dcb), sigsb, impsb, funsb, glosb, expsb, datsb⟩ : MV) _ (HRb.out.bel (B2.out.trans (DN.out.mono B2.out.size))) HLb.out).mono ?_
       rintro e w4 ⟨m4, rfl, hpl, ho, hlg, hb⟩
       have HP4 := hide hpl
       replace O3 := hide (O3.out.bel hb)
       have O4 := hide ho.reads
       have L4 := hide hlg
       replace DN := hide (bel_step DN.out hb DN.out.size)
       clear hpl ho hlg hb)
    | (go_at_call 7
       refine (toModule_c (⟨(Sa, Sna, Sca), (Ia, Ina, Ica), (Fa, Fna, Fca), pga, moa, (Ga, Gna, Gca), (Ea, Ena, Eca), (Da, Dna, Dca), sigsa, impsa, funsa, glosa, expsa, datsa⟩ : MV) _ (HRa.out.bel (B2.out.trans (DN.out.mono B2.out.size))) HLa.out).mono ?_
       rintro e w3 ⟨m3, rfl, hpl, ho, hlg, hb⟩
       have HP3 := hide hpl
       have O3 := hide ho.reads
       have L3 := hide hlg
       replace DN := hide (bel_step DN.out hb DN.out.size)
       clear hpl ho hlg hb))
  clear HPc
  have B5 := hide (B2.out.trans (DN.out.mono B2.out.size))
  have Ka5 := hide (Ka2.out.bel DN.out)
  have Kb5 := hide (Kb2.out.bel DN.out)
  clear DN B2 Ka2 Kb2 HP3 HP4 O3 O4 L3 L4
  have p0 : w5.cell? ⟨w.heap.size, 0, none⟩ = some (.slice Sa Sna Sca) := Ka5.out.cell 0
  have p1 : w5.cell? ⟨w.heap.size, 1, none⟩ = some (.slice Ia Ina Ica) := Ka5.out.cell 1
  have p2 : w5.cell? ⟨w.heap.size, 2, none⟩ = some (.slice Fa Fna Fca) := Ka5.out.cell 2
  have p3 : w5.cell? ⟨w.heap.size, 3, none⟩ = some (.int .i64 pga) := Ka5.out.cell 3
  have p4 : w5.cell? ⟨w.heap.size, 4, none⟩ = some (.int .i64 moa) := Ka5.out.cell 4
  have p5 : w5.cell? ⟨w.heap.size, 5, none⟩ = some (.slice Ga Gna Gca) := Ka5.out.cell 5
  have p6 : w5.cell? ⟨w.heap.size, 6, none⟩ = some (.slice Ea Ena Eca) := Ka5.out.cell 6
  have p7 : w5.cell? ⟨w.heap.size, 7, none⟩ = some (.slice Da Dna Dca) := Ka5.out.cell 7
  go_wp2_with fail
  refine (toModule_c (⟨(Sa, Sna, Sca), (Ia, Ina, Ica), (Fa, Fna, Fca), pga, moa, (Ga, Gna, Gca), (Ea, Ena, Eca), (Da, Dna, Dca), sigsa, impsa, funsa, glosa, expsa, datsa⟩ : MV) w5 (HRa.out.bel B5.out) HLa.out).mono ?_
  rintro e w6 ⟨m6, rfl, hpl, ho, hlg, hb⟩
  have HP4 := hide hpl
  have O4 := hide ho
  have L4 := hide hlg
  have B6 := hide (bel_step B5.out hb B5.out.size)
  have Ka6 := hide (Ka5.out.bel hb)
  have Kb6 := hide (Kb5.out.bel hb)
  clear hpl ho hlg hb p0 p1 p2 p3 p4 p5 p6 p7 B5 Ka5 Kb5
  obtain ⟨⟨S4, Sn4, Sc4⟩, ⟨I4, In4, Ic4⟩, ⟨F4, Fn4, Fc4⟩, pg4, mo4, ⟨G4, Gn4, Gc4⟩, ⟨E4, En4, Ec4⟩, ⟨D4, Dn4, Dc4⟩, sigs4, imps4, funs4, glos4, exps4, dats4⟩ := m6
  have e4 : (⟨(S4, Sn4, Sc4), (I4, In4, Ic4), (F4, Fn4, Fc4), pg4, mo4, (G4, Gn4, Gc4), (E4, En4, Ec4), (D4, Dn4, Dc4), sigs4, imps4, funs4, glos4, exps4, dats4⟩ : MV).v = .agg #[.slice S4 Sn4 Sc4, .slice I4 In4 Ic4, .slice F4 Fn4 Fc4, .int .i64 pg4, .int .i64 mo4, .slice G4 Gn4 Gc4, .slice E4 En4 Ec4, .slice D4 Dn4 Dc4] := rfl
  rw [e4]
  clear e4
  have B6a := hide (B6.out.alloc B6.out.size (.cells #[.slice S4 Sn4 Sc4, .slice I4 In4 Ic4, .slice F4 Fn4 Fc4, .int .i64 pg4, .int .i64 mo4, .slice G4 Gn4 Gc4, .slice E4 En4 Ec4, .slice D4 Dn4 Dc4] 41))
  have Ka6a := hide (Ka6.out.alloc (.cells #[.slice S4 Sn4 Sc4, .slice I4 In4 Ic4, .slice F4 Fn4 Fc4, .int .i64 pg4, .int .i64 mo4, .slice G4 Gn4 Gc4, .slice E4 En4 Ec4, .slice D4 Dn4 Dc4] 41))
  have Kb6a := hide (Kb6.out.alloc (.cells #[.slice S4 Sn4 Sc4, .slice I4 In4 Ic4, .slice F4 Fn4 Fc4, .int .i64 pg4, .int .i64 mo4, .slice G4 Gn4 Gc4, .slice E4 En4 Ec4, .slice D4 Dn4 Dc4] 41))
  have J4 := hide (Blk.new w6 #[.slice S4 Sn4 Sc4, .slice I4 In4 Ic4, .slice F4 Fn4 Fc4, .int .i64 pg4, .int .i64 mo4, .slice G4 Gn4 Gc4, .slice E4 En4 Ec4, .slice D4 Dn4 Dc4] 41)
  have O4a := hide (O4.out.below ((Below.refl _ _).alloc (Nat.le_refl _) (.cells #[.slice S4 Sn4 Sc4, .slice I4 In4 Ic4, .slice F4 Fn4 Fc4, .int .i64 pg4, .int .i64 mo4, .slice G4 Gn4 Gc4, .slice E4 En4 Ec4, .slice D4 Dn4 Dc4] 41)))
  have p0 : (w6.alloc (.cells #[.slice S4 Sn4 Sc4, .slice I4 In4 Ic4, .slice F4 Fn4 Fc4, .int .i64 pg4, .int .i64 mo4, .slice G4 Gn4 Gc4, .slice E4 En4 Ec4, .slice D4 Dn4 Dc4] 41)).cell? ⟨w.heap.size + 1, 0, none⟩ = some (.slice Sb Snb Scb) := Kb6a.out.cell 0
  have p1 : (w6.alloc (.cells #[.slice S4 Sn4 Sc4, .slice I4 In4 Ic4, .slice F4 Fn4 Fc4, .int .i64 pg4, .int .i64 mo4, .slice G4 Gn4 Gc4, .slice E4 En4 Ec4, .slice D4 Dn4 Dc4] 41)).cell? ⟨w.heap.size + 1, 1, none⟩ = some (.slice Ib Inb Icb) := Kb6a.out.cell 1
  have p2 : (w6.alloc (.cells #[.slice S4 Sn4 Sc4, .slice I4 In4 Ic4, .slice F4 Fn4 Fc4, .int .i64 pg4, .int .i64 mo4, .slice G4 Gn4 Gc4, .slice E4 En4 Ec4, .slice D4 Dn4 Dc4] 41)).cell? ⟨w.heap.size + 1, 2, none⟩ = some (.slice Fb Fnb Fcb) := Kb6a.out.cell 2
  have p3 : (w6.alloc (.cells #[.slice S4 Sn4 Sc4, .slice I4 In4 Ic4, .slice F4 Fn4 Fc4, .int .i64 pg4, .int .i64 mo4, .slice G4 Gn4 Gc4, .slice E4 En4 Ec4, .slice D4 Dn4 Dc4] 41)).cell? ⟨w.heap.size + 1, 3, none⟩ = some (.int .i64 pgb) := Kb6a.out.cell 3
  have p4 : (w6.alloc (.cells #[.slice S4 Sn4 Sc4, .slice I4 In4 Ic4, .slice F4 Fn4 Fc4, .int .i64 pg4, .int .i64 mo4, .slice G4 Gn4 Gc4, .slice E4 En4 Ec4, .slice D4 Dn4 Dc4] 41)).cell? ⟨w.heap.size + 1, 4, none⟩ = some (.int .i64 mob) := Kb6a.out.cell 4
  have p5 : (w6.alloc (.cells #[.slice S4 Sn4 Sc4, .slice I4 In4 Ic4, .slice F4 Fn4 Fc4, .int .i64 pg4, .int .i64 mo4, .slice G4 Gn4 Gc4, .slice E4 En4 Ec4, .slice D4 Dn4 Dc4] 41)).cell? ⟨w.heap.size + 1, 5, none⟩ = some (.slice Gb Gnb Gcb) := Kb6a.out.cell 5
  have p6 : (w6.alloc (.cells #[.slice S4 Sn4 Sc4, .slice I4 In4 Ic4, .slice F4 Fn4 Fc4, .int .i64 pg4, .int .i64 mo4, .slice G4 Gn4 Gc4, .slice E4 En4 Ec4, .slice D4 Dn4 Dc4] 41)).cell? ⟨w.heap.size + 1, 6, none⟩ = some (.slice Eb Enb Ecb) := Kb6a.out.cell 6
  have p7 : (w6.alloc (.cells #[.slice S4 Sn4 Sc4, .slice I4 In4 Ic4, .slice F4 Fn4 Fc4, .int .i64 pg4, .int .i64 mo4, .slice G4 Gn4 Gc4, .slice E4 En4 Ec4, .slice D4 Dn4 Dc4] 41)).cell? ⟨w.heap.size + 1, 7, none⟩ = some (.slice Db Dnb Dcb) := Kb6a.out.cell 7
  go_wp2_with fail
  clear p0 p1 p2 p3 p4 p5 p6 p7
  generalize w6.alloc (.cells #[.slice S4 Sn4 Sc4, .slice I4 In4 Ic4, .slice F4 Fn4 Fc4, .int .i64 pg4, .int .i64 mo4, .slice G4 Gn4 Gc4, .slice E4 En4 Ec4, .slice D4 Dn4 Dc4] 41) = W6 at B6a Ka6a Kb6a J4 O4a ⊢
  clear B6 Ka6 Kb6 O4
  refine (toModule_c (⟨(Sb, Snb, Scb), (Ib, Inb, Icb), (Fb, Fnb, Fcb), pgb, mob, (Gb, Gnb, Gcb), (Eb, Enb, Ecb), (Db, Dnb, Dcb), sigsb, impsb, funsb, glosb, expsb, datsb⟩ : MV) W6 (HRb.out.bel B6a.out) HLb.out).mono ?_
  rintro e w7 ⟨m7, rfl, hpl, ho, hlg, hb⟩
  have HP5 := hide hpl
  have O5 := hide ho
  have L5 := hide hlg
  have B7 := hide (bel_step B6a.out hb B6a.out.size)
  have Ka7 := hide (Ka6a.out.bel hb)
  have Kb7 := hide (Kb6a.out.bel hb)
  have J47 := hide (J4.out.bel hb)
  have O47 := hide (O4a.out.below hb)
  clear hpl ho hlg hb B6a Ka6a Kb6a J4 O4a
  obtain ⟨⟨S5, Sn5, Sc5⟩, ⟨I5, In5, Ic5⟩, ⟨F5, Fn5, Fc5⟩, pg5, mo5, ⟨G5, Gn5, Gc5⟩, ⟨E5, En5, Ec5⟩, ⟨D5, Dn5, Dc5⟩, sigs5, imps5, funs5, glos5, exps5, dats5⟩ := m7
  have e5 : (⟨(S5, Sn5, Sc5), (I5, In5, Ic5), (F5, Fn5, Fc5), pg5, mo5, (G5, Gn5, Gc5), (E5, En5, Ec5), (D5, Dn5, Dc5), sigs5, imps5, funs5, glos5, exps5, dats5⟩ : MV).v = .agg #[.slice S5 Sn5 Sc5, .slice I5 In5 Ic5, .slice F5 Fn5 Fc5, .int .i64 pg5, .int .i64 mo5, .slice G5 Gn5 Gc5, .slice E5 En5 Ec5, .slice D5 Dn5 Dc5] := rfl
  rw [e5]
  clear e5
  have HAL := hide (Below.alloc (Below.refl w7.heap.size w7) (Nat.le_refl _) (.cells #[.slice S5 Sn5 Sc5, .slice I5 In5 Ic5, .slice F5 Fn5 Fc5, .int .i64 pg5, .int .i64 mo5, .slice G5 Gn5 Gc5, .slice E5 En5 Ec5, .slice D5 Dn5 Dc5] 41))
  have B7a := hide (bel_step B7.out HAL.out B7.out.size)
  have Ka7a := hide (Ka7.out.bel HAL.out)
  have Kb7a := hide (Kb7.out.bel HAL.out)
  have J47a := hide (J47.out.bel HAL.out)
  have J57a := hide (Blk.new w7 #[.slice S5 Sn5 Sc5, .slice I5 In5 Ic5, .slice F5 Fn5 Fc5, .int .i64 pg5, .int .i64 mo5, .slice G5 Gn5 Gc5, .slice E5 En5 Ec5, .slice D5 Dn5 Dc5] 41)
  have O47a := hide (O47.out.below HAL.out)
  have O57a := hide (O5.out.below HAL.out)
  have p0 : (w7.alloc (.cells #[.slice S5 Sn5 Sc5, .slice I5 In5 Ic5, .slice F5 Fn5 Fc5, .int .i64 pg5, .int .i64 mo5, .slice G5 Gn5 Gc5, .slice E5 En5 Ec5, .slice D5 Dn5 Dc5] 41)).cell? ⟨w6.heap.size, 0, none⟩ = some (.slice S4 Sn4 Sc4) := J47a.out.cell 0
  have p1 : (w7.alloc (.cells #[.slice S5 Sn5 Sc5, .slice I5 In5 Ic5, .slice F5 Fn5 Fc5, .int .i64 pg5, .int .i64 mo5, .slice G5 Gn5 Gc5, .slice E5 En5 Ec5, .slice D5 Dn5 Dc5] 41)).cell? ⟨w6.heap.size, 1, none⟩ = some (.slice I4 In4 Ic4) := J47a.out.cell 1
  have p2 : (w7.alloc (.cells #[.slice S5 Sn5 Sc5, .slice I5 In5 Ic5, .slice F5 Fn5 Fc5, .int .i64 pg5, .int .i64 mo5, .slice G5 Gn5 Gc5, .slice E5 En5 Ec5, .slice D5 Dn5 Dc5] 41)).cell? ⟨w6.heap.size, 2, none⟩ = some (.slice F4 Fn4 Fc4) := J47a.out.cell 2
  have p3 : (w7.alloc (.cells #[.slice S5 Sn5 Sc5, .slice I5 In5 Ic5, .slice F5 Fn5 Fc5, .int .i64 pg5, .int .i64 mo5, .slice G5 Gn5 Gc5, .slice E5 En5 Ec5, .slice D5 Dn5 Dc5] 41)).cell? ⟨w6.heap.size, 3, none⟩ = some (.int .i64 pg4) := J47a.out.cell 3
  have p4 : (w7.alloc (.cells #[.slice S5 Sn5 Sc5, .slice I5 In5 Ic5, .slice F5 Fn5 Fc5, .int .i64 pg5, .int .i64 mo5, .slice G5 Gn5 Gc5, .slice E5 En5 Ec5, .slice D5 Dn5 Dc5] 41)).cell? ⟨w6.heap.size, 4, none⟩ = some (.int .i64 mo4) := J47a.out.cell 4
  have p5 : (w7.alloc (.cells #[.slice S5 Sn5 Sc5, .slice I5 In5 Ic5, .slice F5 Fn5 Fc5, .int .i64 pg5, .int .i64 mo5, .slice G5 Gn5 Gc5, .slice E5 En5 Ec5, .slice D5 Dn5 Dc5] 41)).cell? ⟨w6.heap.size, 5, none⟩ = some (.slice G4 Gn4 Gc4) := J47a.out.cell 5
  have p6 : (w7.alloc (.cells #[.slice S5 Sn5 Sc5, .slice I5 In5 Ic5, .slice F5 Fn5 Fc5, .int .i64 pg5, .int .i64 mo5, .slice G5 Gn5 Gc5, .slice E5 En5 Ec5, .slice D5 Dn5 Dc5] 41)).cell? ⟨w6.heap.size, 6, none⟩ = some (.slice E4 En4 Ec4) := J47a.out.cell 6
  have p7 : (w7.alloc (.cells #[.slice S5 Sn5 Sc5, .slice I5 In5 Ic5, .slice F5 Fn5 Fc5, .int .i64 pg5, .int .i64 mo5, .slice G5 Gn5 Gc5, .slice E5 En5 Ec5, .slice D5 Dn5 Dc5] 41)).cell? ⟨w6.heap.size, 7, none⟩ = some (.slice D4 Dn4 Dc4) := J47a.out.cell 7
  go_wp2_with fail
  clear p0 p1 p2 p3 p4 p5 p6 p7 HAL
  generalize w7.alloc (.cells #[.slice S5 Sn5 Sc5, .slice I5 In5 Ic5, .slice F5 Fn5 Fc5, .int .i64 pg5, .int .i64 mo5, .slice G5 Gn5 Gc5, .slice E5 En5 Ec5, .slice D5 Dn5 Dc5] 41) = W7 at B7a Ka7a Kb7a J47a J57a O47a O57a ⊢
  clear B7 Ka7 Kb7 J47 O47 O5
  refine (CI.out (⟨(S4, Sn4, Sc4), (I4, In4, Ic4), (F4, Fn4, Fc4), pg4, mo4, (G4, Gn4, Gc4), (E4, En4, Ec4), (D4, Dn4, Dc4), sigs4, imps4, funs4, glos4, exps4, dats4⟩ : MV) (⟨(S5, Sn5, Sc5), (I5, In5, Ic5), (F5, Fn5, Fc5), pg5, mo5, (G5, Gn5, Gc5), (E5, En5, Ec5), (D5, Dn5, Dc5), sigs5, imps5, funs5, glos5, exps5, dats5⟩ : MV) W7 B7a.out HP4.out HP5.out O47a.out.reads O57a.out.reads L4.out L5.out).mono ?_
  rintro e w8 ⟨rfl, hb⟩
  have B8 := hide (bel_step B7a.out hb B7a.out.size)
  have Ka8 := hide (Ka7a.out.bel hb)
  have Kb8 := hide (Kb7a.out.bel hb)
  have J48 := hide (J47a.out.bel hb)
  have J58 := hide (J57a.out.bel hb)
  have O48 := hide (O47a.out.below hb)
  have O58 := hide (O57a.out.below hb)
  clear hb B7a Ka7a Kb7a J47a J57a O47a O57a CS CI
  have HPc := hide (show ∀ W, Below w8.heap.size w8 W → W.cell? ⟨w.heap.size, 0, none⟩ = some (.slice Sa Sna Sca) ∧ W.cell? ⟨w.heap.size, 1, none⟩ = some (.slice Ia Ina Ica) ∧ W.cell? ⟨w.heap.size, 2, none⟩ = some (.slice Fa Fna Fca) ∧ W.cell? ⟨w.heap.size, 3, none⟩ = some (.int .i64 pga) ∧ W.cell? ⟨w.heap.size, 4, none⟩ = some (.int .i64 moa) ∧ W.cell? ⟨w.heap.size, 5, none⟩ = some (.slice Ga Gna Gca) ∧ W.cell? ⟨w.heap.size, 6, none⟩ = some (.slice Ea Ena Eca) ∧ W.cell? ⟨w.heap.size, 7, none⟩ = some (.slice Da Dna Dca) ∧ W.cell? ⟨w6.heap.size, 0, none⟩ = some (.slice S4 Sn4 Sc4) ∧ W.cell? ⟨w6.heap.size, 1, none⟩ = some (.slice I4 In4 Ic4) ∧ W.cell? ⟨w6.heap.size, 2, none⟩ = some (.slice F4 Fn4 Fc4) ∧ W.cell? ⟨w6.heap.size, 3, none⟩ = some (.int .i64 pg4) ∧ W.cell? ⟨w6.heap.size, 4, none⟩ = some (.int .i64 mo4) ∧ W.cell? ⟨w6.heap.size, 5, none⟩ = some (.slice G4 Gn4 Gc4) ∧ W.cell? ⟨w6.heap.size, 6, none⟩ = some (.slice E4 En4 Ec4) ∧ W.cell? ⟨w6.heap.size, 7, none⟩ = some (.slice D4 Dn4 Dc4) from fun W D => ⟨(Ka8.out.bel D).cell 0, (Ka8.out.bel D).cell 1, (Ka8.out.bel D).cell 2, (Ka8.out.bel D).cell 3, (Ka8.out.bel D).cell 4, (Ka8.out.bel D).cell 5, (Ka8.out.bel D).cell 6, (Ka8.out.bel D).cell 7, (J48.out.bel D).cell 0, (J48.out.bel D).cell 1, (J48.out.bel D).cell 2, (J48.out.bel D).cell 3, (J48.out.bel D).cell 4, (J48.out.bel D).cell 5, (J48.out.bel D).cell 6, (J48.out.bel D).cell 7⟩)
  have DN := hide (show Below w8.heap.size w8 w8.drew from bel_drewN (Below.refl _ _) 1)
  go_wp2_with fail
  go_region_held (fun W => W.cell? ⟨w.heap.size, 0, none⟩ = some (.slice Sa Sna Sca) ∧ W.cell? ⟨w.heap.size, 1, none⟩ = some (.slice Ia Ina Ica) ∧ W.cell? ⟨w.heap.size, 2, none⟩ = some (.slice Fa Fna Fca) ∧ W.cell? ⟨w.heap.size, 3, none⟩ = some (.int .i64 pga) ∧ W.cell? ⟨w.heap.size, 4, none⟩ = some (.int .i64 moa) ∧ W.cell? ⟨w.heap.size, 5, none⟩ = some (.slice Ga Gna Gca) ∧ W.cell? ⟨w.heap.size, 6, none⟩ = some (.slice Ea Ena Eca) ∧ W.cell? ⟨w.heap.size, 7, none⟩ = some (.slice Da Dna Dca) ∧ W.cell? ⟨w6.heap.size, 0, none⟩ = some (.slice S4 Sn4 Sc4) ∧ W.cell? ⟨w6.heap.size, 1, none⟩ = some (.slice I4 In4 Ic4) ∧ W.cell? ⟨w6.heap.size, 2, none⟩ = some (.slice F4 Fn4 Fc4) ∧ W.cell? ⟨w6.heap.size, 3, none⟩ = some (.int .i64 pg4) ∧ W.cell? ⟨w6.heap.size, 4, none⟩ = some (.int .i64 mo4) ∧ W.cell? ⟨w6.heap.size, 5, none⟩ = some (.slice G4 Gn4 Gc4) ∧ W.cell? ⟨w6.heap.size, 6, none⟩ = some (.slice E4 En4 Ec4) ∧ W.cell? ⟨w6.heap.size, 7, none⟩ = some (.slice D4 Dn4 Dc4)) (exact HPc.out _ DN.out) (first
    | (go_at_call 10
       have hq := O9
       refine (eqModule_c (⟨(S4, Sn4, Sc4), (I4, In4, Ic4), (F4, Fn4, Fc4), pg4, mo4, (G4, Gn4, Gc4), (E4, En4, Ec4), (D4, Dn4, Dc4), sigs4, imps4, funs4, glos4, exps4, dats4⟩ : MV) m9 _ (O48.out.reads.bel DN.out) O9.out L4.out L9.out (by rw [HP4.out, HP9.out])).mono ?_
       rintro e w9e ⟨rfl, hb⟩
       replace DN := hide (bel_step DN.out hb DN.out.size)
       clear hb)
    | (go_at_call 7
       refine (toModule_c (⟨(Sa, Sna, Sca), (Ia, Ina, Ica), (Fa, Fna, Fca), pga, moa, (Ga, Gna, Gca), (Ea, Ena, Eca), (Da, Dna, Dca), sigsa, impsa, funsa, glosa, expsa, datsa⟩ : MV) _ (HRa.out.bel (B8.out.trans (DN.out.mono B8.out.size))) HLa.out).mono ?_
       rintro e w9 ⟨m9, rfl, hpl, ho, hlg, hb⟩
       have HP9 := hide hpl
       have O9 := hide ho.reads
       have L9 := hide hlg
       replace DN := hide (bel_step DN.out hb DN.out.size)
       clear hpl ho hlg hb))
  clear HPc
  have B9 := hide (B8.out.trans (DN.out.mono B8.out.size))
  have Kb9 := hide (Kb8.out.bel DN.out)
  have J59 := hide (J58.out.bel DN.out)
  have O59 := hide (O58.out.below DN.out)
  clear DN B8 Ka8 Kb8 J48 J58 O48 O58 HP9 O9 L9
  have HPc := hide (show ∀ W, Below w9e.heap.size w9e W → W.cell? ⟨w.heap.size + 1, 0, none⟩ = some (.slice Sb Snb Scb) ∧ W.cell? ⟨w.heap.size + 1, 1, none⟩ = some (.slice Ib Inb Icb) ∧ W.cell? ⟨w.heap.size + 1, 2, none⟩ = some (.slice Fb Fnb Fcb) ∧ W.cell? ⟨w.heap.size + 1, 3, none⟩ = some (.int .i64 pgb) ∧ W.cell? ⟨w.heap.size + 1, 4, none⟩ = some (.int .i64 mob) ∧ W.cell? ⟨w.heap.size + 1, 5, none⟩ = some (.slice Gb Gnb Gcb) ∧ W.cell? ⟨w.heap.size + 1, 6, none⟩ = some (.slice Eb Enb Ecb) ∧ W.cell? ⟨w.heap.size + 1, 7, none⟩ = some (.slice Db Dnb Dcb) ∧ W.cell? ⟨w7.heap.size, 0, none⟩ = some (.slice S5 Sn5 Sc5) ∧ W.cell? ⟨w7.heap.size, 1, none⟩ = some (.slice I5 In5 Ic5) ∧ W.cell? ⟨w7.heap.size, 2, none⟩ = some (.slice F5 Fn5 Fc5) ∧ W.cell? ⟨w7.heap.size, 3, none⟩ = some (.int .i64 pg5) ∧ W.cell? ⟨w7.heap.size, 4, none⟩ = some (.int .i64 mo5) ∧ W.cell? ⟨w7.heap.size, 5, none⟩ = some (.slice G5 Gn5 Gc5) ∧ W.cell? ⟨w7.heap.size, 6, none⟩ = some (.slice E5 En5 Ec5) ∧ W.cell? ⟨w7.heap.size, 7, none⟩ = some (.slice D5 Dn5 Dc5) from fun W D => ⟨(Kb9.out.bel D).cell 0, (Kb9.out.bel D).cell 1, (Kb9.out.bel D).cell 2, (Kb9.out.bel D).cell 3, (Kb9.out.bel D).cell 4, (Kb9.out.bel D).cell 5, (Kb9.out.bel D).cell 6, (Kb9.out.bel D).cell 7, (J59.out.bel D).cell 0, (J59.out.bel D).cell 1, (J59.out.bel D).cell 2, (J59.out.bel D).cell 3, (J59.out.bel D).cell 4, (J59.out.bel D).cell 5, (J59.out.bel D).cell 6, (J59.out.bel D).cell 7⟩)
  have DN := hide (show Below w9e.heap.size w9e w9e.drew from bel_drewN (Below.refl _ _) 1)
  go_wp2_with fail
  go_region_held (fun W => W.cell? ⟨w.heap.size + 1, 0, none⟩ = some (.slice Sb Snb Scb) ∧ W.cell? ⟨w.heap.size + 1, 1, none⟩ = some (.slice Ib Inb Icb) ∧ W.cell? ⟨w.heap.size + 1, 2, none⟩ = some (.slice Fb Fnb Fcb) ∧ W.cell? ⟨w.heap.size + 1, 3, none⟩ = some (.int .i64 pgb) ∧ W.cell? ⟨w.heap.size + 1, 4, none⟩ = some (.int .i64 mob) ∧ W.cell? ⟨w.heap.size + 1, 5, none⟩ = some (.slice Gb Gnb Gcb) ∧ W.cell? ⟨w.heap.size + 1, 6, none⟩ = some (.slice Eb Enb Ecb) ∧ W.cell? ⟨w.heap.size + 1, 7, none⟩ = some (.slice Db Dnb Dcb) ∧ W.cell? ⟨w7.heap.size, 0, none⟩ = some (.slice S5 Sn5 Sc5) ∧ W.cell? ⟨w7.heap.size, 1, none⟩ = some (.slice I5 In5 Ic5) ∧ W.cell? ⟨w7.heap.size, 2, none⟩ = some (.slice F5 Fn5 Fc5) ∧ W.cell? ⟨w7.heap.size, 3, none⟩ = some (.int .i64 pg5) ∧ W.cell? ⟨w7.heap.size, 4, none⟩ = some (.int .i64 mo5) ∧ W.cell? ⟨w7.heap.size, 5, none⟩ = some (.slice G5 Gn5 Gc5) ∧ W.cell? ⟨w7.heap.size, 6, none⟩ = some (.slice E5 En5 Ec5) ∧ W.cell? ⟨w7.heap.size, 7, none⟩ = some (.slice D5 Dn5 Dc5)) (exact HPc.out _ DN.out) (first
    | (go_at_call 10
       have hq := O10
       refine (eqModule_c (⟨(S5, Sn5, Sc5), (I5, In5, Ic5), (F5, Fn5, Fc5), pg5, mo5, (G5, Gn5, Gc5), (E5, En5, Ec5), (D5, Dn5, Dc5), sigs5, imps5, funs5, glos5, exps5, dats5⟩ : MV) m10 _ (O59.out.reads.bel DN.out) O10.out L5.out L10.out (by rw [HP5.out, HP10.out])).mono ?_
       rintro e w10e ⟨rfl, hb⟩
       replace DN := hide (bel_step DN.out hb DN.out.size)
       clear hb)
    | (go_at_call 7
       refine (toModule_c (⟨(Sb, Snb, Scb), (Ib, Inb, Icb), (Fb, Fnb, Fcb), pgb, mob, (Gb, Gnb, Gcb), (Eb, Enb, Ecb), (Db, Dnb, Dcb), sigsb, impsb, funsb, glosb, expsb, datsb⟩ : MV) _ (HRb.out.bel (B9.out.trans (DN.out.mono B9.out.size))) HLb.out).mono ?_
       rintro e w10 ⟨m10, rfl, hpl, ho, hlg, hb⟩
       have HP10 := hide hpl
       have O10 := hide ho.reads
       have L10 := hide hlg
       replace DN := hide (bel_step DN.out hb DN.out.size)
       clear hpl ho hlg hb))
  clear HPc
  go_wp2_with fail
  go_ret
  exact ⟨rfl, B9.out.trans (DN.out.mono B9.out.size)⟩
end Go.Proofs.YtiinkfejdnfonaaGreatDoor
