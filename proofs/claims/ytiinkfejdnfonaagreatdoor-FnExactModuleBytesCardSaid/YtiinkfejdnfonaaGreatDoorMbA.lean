/- The law on ModuleBytes, walked over its two contracts. -/
import Derived.Test.YtiinkfejdnfonaaGreatDoorFmC
import Derived.Test.YtiinkfejdnfonaaGreatDoorMoO
import Derived.Test.YtiinkfejdnfonaaGreatDoorMkC
import Derived.Below
import Derived.StillTailTactics
import Derived.Deep.RegionHeld
namespace Go.Proofs.YtiinkfejdnfonaaGreatDoor
open Go.RowKit Go.Proofs.YtiinkfejdnfonaaGreatDoor.Num Go.Proofs.YtiinkfejdnfonaaGreatDoor.NumC Go.Proofs.YtiinkfejdnfonaaGreatDoor.Mem Go.Proofs.YtiinkfejdnfonaaGreatDoor.Utf Go.Proofs.YtiinkfejdnfonaaGreatDoor.Mo
set_option linter.unusedVariables false
set_option maxRecDepth 100000
set_option maxHeartbeats 8000000 in
theorem fnExactModuleBytes_core (m : MV) (w : World) (ok : Bool) (N : Nat) (L : List Int) (hR : m.Reads w) (hX : m.Long 9223372036854775807) (hN : (N : Int) ≤ 10000000)
    (CS : Hid (∀ (p : MV) (W : World), p.pl = m.pl → p.Reads W → p.Long 1048576 → Calls Tryz.prog 6 #[p.v] W fun e W' => ∃ (A : Option Addr) (d : Nat), e = .returned (.tuple #[.slice A N d, .bool ok]) ∧ Ow W' W.heap.size 5 1 A N d (by8 L) ∧ Below W.heap.size W W'))
    (CI : Hid (∀ (p : MV) (W : World), Below w.heap.size w W → p.pl = m.pl → p.Reads W → p.Long 1048576 → Calls Tryz.prog 8 #[p.v] W fun e W' => ∃ (A : Option Addr) (d : Nat), e = .returned (.tuple #[.slice A N d, .bool ok]) ∧ Ow W' W.heap.size 5 1 A N d (by8 L) ∧ Below W.heap.size W W')) :
    Calls Tryz.prog 3 #[m.v] w fun e w' => e = .returned (.bool true) ∧ Below w.heap.size w w' := by
  obtain ⟨⟨S, Sn, Sc⟩, ⟨I, In, Ic⟩, ⟨F, Fn, Fc⟩, pg, mo, ⟨G, Gn, Gc⟩, ⟨E, En, Ec⟩, ⟨D, Dn, Dc⟩, sigs, imps, funs, glos, exps, dats⟩ := m
  have HR := hide hR
  have HX := hide hX
  have HM := hide (show N ≤ 281474976710655 by omega)
  have hnn : (ok != ok) = false := by simp
  have B0 := hide ((Below.refl w.heap.size w).alloc (Nat.le_refl _) (.cells #[.slice S Sn Sc, .slice I In Ic, .slice F Fn Fc, .int .i64 pg, .int .i64 mo, .slice G Gn Gc, .slice E En Ec, .slice D Dn Dc] 29))
  have HK := hide (Blk.new w #[.slice S Sn Sc, .slice I In Ic, .slice F Fn Fc, .int .i64 pg, .int .i64 mo, .slice G Gn Gc, .slice E En Ec, .slice D Dn Dc] 29)
  clear hR hX
  change Calls Tryz.prog 3 #[.agg #[.slice S Sn Sc, .slice I In Ic, .slice F Fn Fc, .int .i64 pg, .int .i64 mo, .slice G Gn Gc, .slice E En Ec, .slice D Dn Dc]] w _
  go_enter Tryz.func3, Tryz.ntmps3
  go_wp2_with fail
  generalize w.alloc (.cells #[.slice S Sn Sc, .slice I In Ic, .slice F Fn Fc, .int .i64 pg, .int .i64 mo, .slice G Gn Gc, .slice E En Ec, .slice D Dn Dc] 29) = W0 at B0 HK ⊢
  refine (szModule_c (⟨(S, Sn, Sc), (I, In, Ic), (F, Fn, Fc), pg, mo, (G, Gn, Gc), (E, En, Ec), (D, Dn, Dc), sigs, imps, funs, glos, exps, dats⟩ : MV) 1048576 W0 (HR.out.bel B0.out) HX.out (by omega) (by omega)).mono ?_
  rintro e w1 ⟨h, hb⟩
  have B1 := hide (bel_step B0.out hb B0.out.size)
  have K1 := hide (HK.out.bel hb)
  clear hb
  rcases h with rfl | ⟨r, hr0, hr1, hL, rfl⟩
  · go_wp2_with fail
    go_ret
    exact ⟨rfl, B1.out⟩
  have HL := hide hL
  clear hL HX B0 HK
  have p0 : w1.cell? ⟨w.heap.size, 0, none⟩ = some (.slice S Sn Sc) := K1.out.cell 0
  have p1 : w1.cell? ⟨w.heap.size, 1, none⟩ = some (.slice I In Ic) := K1.out.cell 1
  have p2 : w1.cell? ⟨w.heap.size, 2, none⟩ = some (.slice F Fn Fc) := K1.out.cell 2
  have p3 : w1.cell? ⟨w.heap.size, 3, none⟩ = some (.int .i64 pg) := K1.out.cell 3
  have p4 : w1.cell? ⟨w.heap.size, 4, none⟩ = some (.int .i64 mo) := K1.out.cell 4
  have p5 : w1.cell? ⟨w.heap.size, 5, none⟩ = some (.slice G Gn Gc) := K1.out.cell 5
  have p6 : w1.cell? ⟨w.heap.size, 6, none⟩ = some (.slice E En Ec) := K1.out.cell 6
  have p7 : w1.cell? ⟨w.heap.size, 7, none⟩ = some (.slice D Dn Dc) := K1.out.cell 7
  go_wp2_with fail
  refine (toModule_c (⟨(S, Sn, Sc), (I, In, Ic), (F, Fn, Fc), pg, mo, (G, Gn, Gc), (E, En, Ec), (D, Dn, Dc), sigs, imps, funs, glos, exps, dats⟩ : MV) w1 (HR.out.bel B1.out) HL.out).mono ?_
  rintro e w2 ⟨m2, rfl, hpl, ho, hlg, hb⟩
  have C2 := hide (CS.out m2 w2 hpl ho.reads hlg)
  have B2 := hide (bel_step B1.out hb B1.out.size)
  have K2 := hide (K1.out.bel hb)
  clear hpl ho hlg hb p0 p1 p2 p3 p4 p5 p6 p7 B1 K1 CS
  go_wp2_with fail
  refine C2.out.mono ?_
  rintro e w3 ⟨A2, c2, rfl, ho, hb⟩
  have O3 := hide ho
  have LT3 := hide (fun g h => (ho.blk_lt g h).2)
  have B3 := hide (bel_step B2.out hb B2.out.size)
  have K3 := hide (K2.out.bel hb)
  clear ho hb B2 K2 C2
  have p0 : w3.cell? ⟨w.heap.size, 0, none⟩ = some (.slice S Sn Sc) := K3.out.cell 0
  have p1 : w3.cell? ⟨w.heap.size, 1, none⟩ = some (.slice I In Ic) := K3.out.cell 1
  have p2 : w3.cell? ⟨w.heap.size, 2, none⟩ = some (.slice F Fn Fc) := K3.out.cell 2
  have p3 : w3.cell? ⟨w.heap.size, 3, none⟩ = some (.int .i64 pg) := K3.out.cell 3
  have p4 : w3.cell? ⟨w.heap.size, 4, none⟩ = some (.int .i64 mo) := K3.out.cell 4
  have p5 : w3.cell? ⟨w.heap.size, 5, none⟩ = some (.slice G Gn Gc) := K3.out.cell 5
  have p6 : w3.cell? ⟨w.heap.size, 6, none⟩ = some (.slice E En Ec) := K3.out.cell 6
  have p7 : w3.cell? ⟨w.heap.size, 7, none⟩ = some (.slice D Dn Dc) := K3.out.cell 7
  go_wp2_with fail
  refine (toModule_c (⟨(S, Sn, Sc), (I, In, Ic), (F, Fn, Fc), pg, mo, (G, Gn, Gc), (E, En, Ec), (D, Dn, Dc), sigs, imps, funs, glos, exps, dats⟩ : MV) w3 (HR.out.bel B3.out) HL.out).mono ?_
  rintro e w4 ⟨m4, rfl, hpl, ho, hlg, hb⟩
  have HP4 := hide hpl
  have OO4 := hide ho
  have L4 := hide hlg
  have B4 := hide (bel_step B3.out hb B3.out.size)
  have K4 := hide (K3.out.bel hb)
  have O34 := hide (O3.out.below hb (Nat.le_refl _))
  have W34 := hide (show w3.heap.size ≤ w4.heap.size from hb.size)
  have LE3 := hide (show w.heap.size < w3.heap.size from K3.out.lt)
  clear hpl ho hlg hb p0 p1 p2 p3 p4 p5 p6 p7 K3 O3
  obtain ⟨⟨S4, Sn4, Sc4⟩, ⟨I4, In4, Ic4⟩, ⟨F4, Fn4, Fc4⟩, pg4, mo4, ⟨G4, Gn4, Gc4⟩, ⟨E4, En4, Ec4⟩, ⟨D4, Dn4, Dc4⟩, sigs4, imps4, funs4, glos4, exps4, dats4⟩ := m4
  have e4 : (⟨(S4, Sn4, Sc4), (I4, In4, Ic4), (F4, Fn4, Fc4), pg4, mo4, (G4, Gn4, Gc4), (E4, En4, Ec4), (D4, Dn4, Dc4), sigs4, imps4, funs4, glos4, exps4, dats4⟩ : MV).v = .agg #[.slice S4 Sn4 Sc4, .slice I4 In4 Ic4, .slice F4 Fn4 Fc4, .int .i64 pg4, .int .i64 mo4, .slice G4 Gn4 Gc4, .slice E4 En4 Ec4, .slice D4 Dn4 Dc4] := rfl
  rw [e4]
  clear e4
  have HAL := hide (Below.alloc (Below.refl w4.heap.size w4) (Nat.le_refl _) (.cells #[.slice S4 Sn4 Sc4, .slice I4 In4 Ic4, .slice F4 Fn4 Fc4, .int .i64 pg4, .int .i64 mo4, .slice G4 Gn4 Gc4, .slice E4 En4 Ec4, .slice D4 Dn4 Dc4] 41))
  have HZ4 := hide (show w4.heap.size ≤ (w4.alloc (.cells #[.slice S4 Sn4 Sc4, .slice I4 In4 Ic4, .slice F4 Fn4 Fc4, .int .i64 pg4, .int .i64 mo4, .slice G4 Gn4 Gc4, .slice E4 En4 Ec4, .slice D4 Dn4 Dc4] 41)).heap.size from HAL.out.size)
  have B4a := hide (bel_step B4.out HAL.out B4.out.size)
  have K4a := hide (K4.out.bel HAL.out)
  have O34a := hide (O34.out.below HAL.out (Nat.le_refl _))
  have J4 := hide (Blk.new w4 #[.slice S4 Sn4 Sc4, .slice I4 In4 Ic4, .slice F4 Fn4 Fc4, .int .i64 pg4, .int .i64 mo4, .slice G4 Gn4 Gc4, .slice E4 En4 Ec4, .slice D4 Dn4 Dc4] 41)
  have O4a := hide (OO4.out.below HAL.out)
  go_wp2_with fail
  generalize w4.alloc (.cells #[.slice S4 Sn4 Sc4, .slice I4 In4 Ic4, .slice F4 Fn4 Fc4, .int .i64 pg4, .int .i64 mo4, .slice G4 Gn4 Gc4, .slice E4 En4 Ec4, .slice D4 Dn4 Dc4] 41) = W4 at HZ4 B4a K4a O34a J4 O4a ⊢
  clear HAL K4 O34 B4
  refine (CI.out (⟨(S4, Sn4, Sc4), (I4, In4, Ic4), (F4, Fn4, Fc4), pg4, mo4, (G4, Gn4, Gc4), (E4, En4, Ec4), (D4, Dn4, Dc4), sigs4, imps4, funs4, glos4, exps4, dats4⟩ : MV) W4 B4a.out HP4.out O4a.out.reads L4.out).mono ?_
  rintro e w5 ⟨A5, c5, rfl, ho, hb⟩
  have O5 := hide ho
  have HWZ := hide (show w3.heap.size ≤ W4.heap.size from Nat.le_trans W34.out HZ4.out)
  have GE5 := hide (show ∀ g, blk A5 = some g → w4.heap.size ≤ g from fun g h => Nat.le_trans HZ4.out (ho.ge g h))
  have Z5 := hide (Nat.le_trans HZ4.out hb.size)
  have B5 := hide (bel_step B4a.out hb B4a.out.size)
  have K5 := hide (K4a.out.bel hb)
  have J5 := hide (J4.out.bel hb)
  have O45 := hide (O4a.out.below hb)
  have O35 := hide (O34a.out.below hb (Nat.le_refl _))
  clear ho hb B4a K4a J4 O4a O34a
  go_wp2_with fail
  refine (eqByteS_c A5 A2 N c5 c2 L w5 O5.out.rd O35.out.rd HM.out).mono ?_
  rintro e w6 ⟨rfl, j6, rfl⟩
  have B6 := hide (bel_drewN B5.out j6)
  have K6 := hide (show Blk (w5.drewN j6) w.heap.size #[.slice S Sn Sc, .slice I In Ic, .slice F Fn Fc, .int .i64 pg, .int .i64 mo, .slice G Gn Gc, .slice E En Ec, .slice D Dn Dc] 29 from K5.out)
  have J6 := hide (show Blk (w5.drewN j6) w4.heap.size #[.slice S4 Sn4 Sc4, .slice I4 In4 Ic4, .slice F4 Fn4 Fc4, .int .i64 pg4, .int .i64 mo4, .slice G4 Gn4 Gc4, .slice E4 En4 Ec4, .slice D4 Dn4 Dc4] 41 from J5.out)
  have HD6 := hide (show Below w5.heap.size w5 (w5.drewN j6) from bel_drewN (Below.refl _ _) j6)
  have O56 := hide (O5.out.drewN j6)
  have O36 := hide (O35.out.drewN j6)
  have O46 := hide (O45.out.below HD6.out)
  have Z6 := hide (show w4.heap.size ≤ (w5.drewN j6).heap.size from Z5.out)
  go_wp2_with fail
  generalize w5.drewN j6 = w6 at B6 K6 J6 O56 O36 O46 Z6 HD6 ⊢
  clear B5 K5 J5 O5 O35 O45 Z5 HD6
  have HPc := hide (show ∀ W, Below w6.heap.size w6 W → W.cell? ⟨w.heap.size, 0, none⟩ = some (.slice S Sn Sc) ∧ W.cell? ⟨w.heap.size, 1, none⟩ = some (.slice I In Ic) ∧ W.cell? ⟨w.heap.size, 2, none⟩ = some (.slice F Fn Fc) ∧ W.cell? ⟨w.heap.size, 3, none⟩ = some (.int .i64 pg) ∧ W.cell? ⟨w.heap.size, 4, none⟩ = some (.int .i64 mo) ∧ W.cell? ⟨w.heap.size, 5, none⟩ = some (.slice G Gn Gc) ∧ W.cell? ⟨w.heap.size, 6, none⟩ = some (.slice E En Ec) ∧ W.cell? ⟨w.heap.size, 7, none⟩ = some (.slice D Dn Dc) ∧ W.cell? ⟨w4.heap.size, 0, none⟩ = some (.slice S4 Sn4 Sc4) ∧ W.cell? ⟨w4.heap.size, 1, none⟩ = some (.slice I4 In4 Ic4) ∧ W.cell? ⟨w4.heap.size, 2, none⟩ = some (.slice F4 Fn4 Fc4) ∧ W.cell? ⟨w4.heap.size, 3, none⟩ = some (.int .i64 pg4) ∧ W.cell? ⟨w4.heap.size, 4, none⟩ = some (.int .i64 mo4) ∧ W.cell? ⟨w4.heap.size, 5, none⟩ = some (.slice G4 Gn4 Gc4) ∧ W.cell? ⟨w4.heap.size, 6, none⟩ = some (.slice E4 En4 Ec4) ∧ W.cell? ⟨w4.heap.size, 7, none⟩ = some (.slice D4 Dn4 Dc4) from fun W D => ⟨(K6.out.bel D).cell 0, (K6.out.bel D).cell 1, (K6.out.bel D).cell 2, (K6.out.bel D).cell 3, (K6.out.bel D).cell 4, (K6.out.bel D).cell 5, (K6.out.bel D).cell 6, (K6.out.bel D).cell 7, (J6.out.bel D).cell 0, (J6.out.bel D).cell 1, (J6.out.bel D).cell 2, (J6.out.bel D).cell 3, (J6.out.bel D).cell 4, (J6.out.bel D).cell 5, (J6.out.bel D).cell 6, (J6.out.bel D).cell 7⟩)
  have DN := hide (show Below w6.heap.size w6 w6.drew from bel_drewN (Below.refl _ _) 1)
  go_wp2_with fail
  go_region_held (fun W => W.cell? ⟨w.heap.size, 0, none⟩ = some (.slice S Sn Sc) ∧ W.cell? ⟨w.heap.size, 1, none⟩ = some (.slice I In Ic) ∧ W.cell? ⟨w.heap.size, 2, none⟩ = some (.slice F Fn Fc) ∧ W.cell? ⟨w.heap.size, 3, none⟩ = some (.int .i64 pg) ∧ W.cell? ⟨w.heap.size, 4, none⟩ = some (.int .i64 mo) ∧ W.cell? ⟨w.heap.size, 5, none⟩ = some (.slice G Gn Gc) ∧ W.cell? ⟨w.heap.size, 6, none⟩ = some (.slice E En Ec) ∧ W.cell? ⟨w.heap.size, 7, none⟩ = some (.slice D Dn Dc) ∧ W.cell? ⟨w4.heap.size, 0, none⟩ = some (.slice S4 Sn4 Sc4) ∧ W.cell? ⟨w4.heap.size, 1, none⟩ = some (.slice I4 In4 Ic4) ∧ W.cell? ⟨w4.heap.size, 2, none⟩ = some (.slice F4 Fn4 Fc4) ∧ W.cell? ⟨w4.heap.size, 3, none⟩ = some (.int .i64 pg4) ∧ W.cell? ⟨w4.heap.size, 4, none⟩ = some (.int .i64 mo4) ∧ W.cell? ⟨w4.heap.size, 5, none⟩ = some (.slice G4 Gn4 Gc4) ∧ W.cell? ⟨w4.heap.size, 6, none⟩ = some (.slice E4 En4 Ec4) ∧ W.cell? ⟨w4.heap.size, 7, none⟩ = some (.slice D4 Dn4 Dc4)) (exact HPc.out _ DN.out) (first
    | (go_at_call 10
       have hq := O7
       refine (eqModule_c (⟨(S4, Sn4, Sc4), (I4, In4, Ic4), (F4, Fn4, Fc4), pg4, mo4, (G4, Gn4, Gc4), (E4, En4, Ec4), (D4, Dn4, Dc4), sigs4, imps4, funs4, glos4, exps4, dats4⟩ : MV) m7 _ (O46.out.reads.bel DN.out) O7.out L4.out L7.out (by rw [HP4.out, HP7.out])).mono ?_
       rintro e w7e ⟨rfl, hb⟩
       replace DN := hide (bel_step DN.out hb DN.out.size)
       clear hb)
    | (go_at_call 7
       refine (toModule_c (⟨(S, Sn, Sc), (I, In, Ic), (F, Fn, Fc), pg, mo, (G, Gn, Gc), (E, En, Ec), (D, Dn, Dc), sigs, imps, funs, glos, exps, dats⟩ : MV) _ (HR.out.bel (B6.out.trans (DN.out.mono B6.out.size))) HL.out).mono ?_
       rintro e w7 ⟨m7, rfl, hpl, ho, hlg, hb⟩
       have HP7 := hide hpl
       have O7 := hide ho.reads
       have L7 := hide hlg
       replace DN := hide (bel_step DN.out hb DN.out.size)
       clear hpl ho hlg hb))
  clear HPc
  have B7 := hide (B6.out.trans (DN.out.mono B6.out.size))
  have K7 := hide (K6.out.bel DN.out)
  have J7 := hide (J6.out.bel DN.out)
  have O57 := hide (O56.out.below DN.out (Nat.le_refl _))
  have O37 := hide (O36.out.below DN.out (Nat.le_refl _))
  have O47 := hide (O46.out.below DN.out)
  have Z7 := hide (Nat.le_trans Z6.out DN.out.size)
  clear DN B6 K6 J6 O56 O36 O46 Z6 HP7 O7 L7
  have p0 : w7e.cell? ⟨w4.heap.size, 0, none⟩ = some (.slice S4 Sn4 Sc4) := J7.out.cell 0
  have p1 : w7e.cell? ⟨w4.heap.size, 1, none⟩ = some (.slice I4 In4 Ic4) := J7.out.cell 1
  have p2 : w7e.cell? ⟨w4.heap.size, 2, none⟩ = some (.slice F4 Fn4 Fc4) := J7.out.cell 2
  have p3 : w7e.cell? ⟨w4.heap.size, 3, none⟩ = some (.int .i64 pg4) := J7.out.cell 3
  have p4 : w7e.cell? ⟨w4.heap.size, 4, none⟩ = some (.int .i64 mo4) := J7.out.cell 4
  have p5 : w7e.cell? ⟨w4.heap.size, 5, none⟩ = some (.slice G4 Gn4 Gc4) := J7.out.cell 5
  have p6 : w7e.cell? ⟨w4.heap.size, 6, none⟩ = some (.slice E4 En4 Ec4) := J7.out.cell 6
  have p7 : w7e.cell? ⟨w4.heap.size, 7, none⟩ = some (.slice D4 Dn4 Dc4) := J7.out.cell 7
  go_wp2_with fail
  refine (markModule_c (⟨(S4, Sn4, Sc4), (I4, In4, Ic4), (F4, Fn4, Fc4), pg4, mo4, (G4, Gn4, Gc4), (E4, En4, Ec4), (D4, Dn4, Dc4), sigs4, imps4, funs4, glos4, exps4, dats4⟩ : MV) w3.heap.size w4 w7e 1 OO4.out O47.out L4.out Z7.out (by omega) (by omega)).mono ?_
  rintro e w8 ⟨⟨k8, rfl, hk8⟩, hm⟩
  have B8 := hide (hm.below B7.out (Nat.le_of_lt LE3.out) B7.out.size)
  have K8 := hide (show Blk w8 w.heap.size #[.slice S Sn Sc, .slice I In Ic, .slice F Fn Fc, .int .i64 pg, .int .i64 mo, .slice G Gn Gc, .slice E En Ec, .slice D Dn Dc] 29 from (hm.block w.heap.size K7.out.lt (.inl LE3.out)).trans K7.out)
  have O58 := hide (hm.kept O57.out (.inr (fun g h => .inr (GE5.out g h))))
  have O38 := hide (hm.kept O37.out (.inr (fun g h => .inl (LT3.out g h))))
  clear hm B7 K7 J7 O57 O37 O47 Z7 OO4 L4 HP4 p0 p1 p2 p3 p4 p5 p6 p7
  go_wp2_with fail
  refine (eqByteS_c A5 A2 N c5 c2 L w8 O58.out.rd O38.out.rd HM.out).mono ?_
  rintro e w9 ⟨rfl, j9, rfl⟩
  have B9 := hide (bel_drewN B8.out j9)
  have K9 := hide (show Blk (w8.drewN j9) w.heap.size #[.slice S Sn Sc, .slice I In Ic, .slice F Fn Fc, .int .i64 pg, .int .i64 mo, .slice G Gn Gc, .slice E En Ec, .slice D Dn Dc] 29 from K8.out)
  have O59 := hide (O58.out.drewN j9)
  have O39 := hide (O38.out.drewN j9)
  go_wp2_with fail
  generalize w8.drewN j9 = w9 at B9 K9 O59 O39 ⊢
  clear B8 K8 O58 O38
  refine (markByteS_c A5 N c5 W4.heap.size (by8 L) 1 w9 O59.out HM.out (by omega) (by omega)).mono ?_
  rintro e w10 ⟨rfl, ho, hg⟩
  have P10 := hide ho
  have B10 := hide (bel_grown B9.out hg B9.out.size (fun g h => Nat.le_trans (Nat.le_trans (Nat.le_of_lt LE3.out) HWZ.out) (O59.out.ge g h)))
  have K10 := hide (show Blk w10 w.heap.size #[.slice S Sn Sc, .slice I In Ic, .slice F Fn Fc, .int .i64 pg, .int .i64 mo, .slice G Gn Gc, .slice E En Ec, .slice D Dn Dc] 29 from (hg.block w.heap.size K9.out.lt (fun e => by have h1 := O59.out.ge _ e.symm; have h2 := HWZ.out; have h3 := LE3.out; omega)).trans K9.out)
  have O310 := hide (O39.out.kept hg (blk_ne (B := W4.heap.size) (fun g h => Nat.lt_of_lt_of_le (LT3.out g h) HWZ.out) O59.out.ge))
  clear ho hg B9 K9 O59 O39
  go_wp2_with fail
  refine (heldByteS_c A5 N c5 1 w10 P10.out.rd HM.out (by omega) (by omega)).mono ?_
  rintro e w11 ⟨rfl, rfl⟩
  have p0 : w10.cell? ⟨w.heap.size, 0, none⟩ = some (.slice S Sn Sc) := K10.out.cell 0
  have p1 : w10.cell? ⟨w.heap.size, 1, none⟩ = some (.slice I In Ic) := K10.out.cell 1
  have p2 : w10.cell? ⟨w.heap.size, 2, none⟩ = some (.slice F Fn Fc) := K10.out.cell 2
  have p3 : w10.cell? ⟨w.heap.size, 3, none⟩ = some (.int .i64 pg) := K10.out.cell 3
  have p4 : w10.cell? ⟨w.heap.size, 4, none⟩ = some (.int .i64 mo) := K10.out.cell 4
  have p5 : w10.cell? ⟨w.heap.size, 5, none⟩ = some (.slice G Gn Gc) := K10.out.cell 5
  have p6 : w10.cell? ⟨w.heap.size, 6, none⟩ = some (.slice E En Ec) := K10.out.cell 6
  have p7 : w10.cell? ⟨w.heap.size, 7, none⟩ = some (.slice D Dn Dc) := K10.out.cell 7
  go_wp2_with fail
  refine (toModule_c (⟨(S, Sn, Sc), (I, In, Ic), (F, Fn, Fc), pg, mo, (G, Gn, Gc), (E, En, Ec), (D, Dn, Dc), sigs, imps, funs, glos, exps, dats⟩ : MV) w10 (HR.out.bel B10.out) HL.out).mono ?_
  rintro e w12 ⟨m12, rfl, hpl, ho, hlg, hb⟩
  have B12 := hide (bel_step B10.out hb B10.out.size)
  have P12 := hide (P10.out.below hb (Nat.le_refl _))
  have O312 := hide (O310.out.below hb (Nat.le_refl _))
  have C12 := hide (CI.out m12 w12 B12.out hpl ho.reads hlg)
  clear hpl ho hlg hb p0 p1 p2 p3 p4 p5 p6 p7 B10 K10 P10 O310
  go_wp2_with fail
  refine C12.out.mono ?_
  rintro e w13 ⟨A13, c13, rfl, ho, hb⟩
  have O13 := hide ho.rd
  have B13 := hide (bel_step B12.out hb B12.out.size)
  have P13 := hide (P12.out.below hb (Nat.le_refl _))
  have O313 := hide (O312.out.below hb (Nat.le_refl _))
  clear ho hb B12 P12 O312 C12 CI
  go_wp2_with fail
  refine (eqByteS_c A13 A2 N c13 c2 L w13 O13.out O313.out.rd HM.out).mono ?_
  rintro e w14 ⟨rfl, j14, rfl⟩
  go_wp2_with fail
  refine (heldByteS_c A5 N c5 1 _ (P13.out.drewN j14).rd HM.out (by omega) (by omega)).mono ?_
  rintro e w15 ⟨rfl, rfl⟩
  go_wp2_with fail
  go_ret
  exact ⟨rfl, bel_drewN B13.out j14⟩
end Go.Proofs.YtiinkfejdnfonaaGreatDoor
