/- The law on SigOf, walked. -/
import Derived.Test.YtiinkfejdnfonaaDoorSgC
import Derived.Test.YtiinkfejdnfonaaDoorMoO
import Derived.Test.YtiinkfejdnfonaaDoorRows
import Derived.Below
import Derived.Stop.LaidErr
import Derived.StillTailTactics
import Derived.Deep.RegionHeld
namespace Go.Proofs.YtiinkfejdnfonaaDoor
open Go.RowKit Go.Proofs.YtiinkfejdnfonaaDoor.Num Go.Proofs.YtiinkfejdnfonaaDoor.NumC Go.Proofs.YtiinkfejdnfonaaDoor.Mem Go.Proofs.YtiinkfejdnfonaaDoor.Utf Go.Proofs.YtiinkfejdnfonaaDoor.Mo
set_option linter.unusedVariables false
set_option maxRecDepth 100000
theorem sgU8x : U8Extra Tryd.prog Tryd.lays196_ren := by
  constructor <;> kernel_rfl
theorem sg_tabs {W : World} (h : laidMetH Tryd.prog Rows.fnExactSigOfRow.laid W) : UTab W := by
  have h4 := Lib.laidMet.reads h (n := "unicode/utf8.acceptRanges") (d := Rows.laid_unicode_utf8_acceptRanges) (by simp [Rows.fnExactSigOfRow])
  have h3 := Lib.laidMet.reads h (n := "unicode/utf8.first") (d := Rows.laid_unicode_utf8_first) (by simp [Rows.fnExactSigOfRow])
  have e3 : Rows.laid_unicode_utf8_first = Lib.firstData := Pinned.utf8First_eq
  have e4 : (Rows.laid_unicode_utf8_acceptRanges : DataW Unit) = Lib.acceptData := by kernel_rfl
  rw [e3] at h3
  rw [e4] at h4
  exact utf8Tabs_of_readsT (U8Types.of196 Tryd.lays196) sgU8x h3 h4
set_option maxHeartbeats 4000000 in
theorem fnExactSigOf_core (m : MV) (ix : Int) (w : World) (R : Int × Int × Bool) (hRR : sigQ m.pl ix = R) (hR : m.Reads w) (hX : m.Long 9223372036854775807) (hT : UTab w) (h63 : -9223372036854775808 ≤ ix ∧ ix ≤ 9223372036854775807) :
    Calls Tryd.prog 6 #[m.v, .int .i64 ix] w fun e w' => e = .returned (.bool true) ∧ Below w.heap.size w w' := by
  obtain ⟨⟨S, Sn, Sc⟩, ⟨I, In, Ic⟩, ⟨F, Fn, Fc⟩, pg, mo, ⟨G, Gn, Gc⟩, ⟨E, En, Ec⟩, ⟨D, Dn, Dc⟩, sigs, imps, funs, glos, exps, dats⟩ := m
  obtain ⟨sp, sr, ok⟩ := R
  have HRR := hide hRR
  have HR := hide hR
  have HX := hide hX
  have HT := hide hT
  have H63 := hide h63
  have hrr : (ok == ok) = true := by simp
  have B0 := hide ((Below.refl w.heap.size w).alloc (Nat.le_refl _) (.cells #[.slice S Sn Sc, .slice I In Ic, .slice F Fn Fc, .int .i64 pg, .int .i64 mo, .slice G Gn Gc, .slice E En Ec, .slice D Dn Dc] 40))
  have HK := hide (Blk.new w #[.slice S Sn Sc, .slice I In Ic, .slice F Fn Fc, .int .i64 pg, .int .i64 mo, .slice G Gn Gc, .slice E En Ec, .slice D Dn Dc] 40)
  clear hRR hR hX hT h63
  change Calls Tryd.prog 6 #[.agg #[.slice S Sn Sc, .slice I In Ic, .slice F Fn Fc, .int .i64 pg, .int .i64 mo, .slice G Gn Gc, .slice E En Ec, .slice D Dn Dc], .int .i64 ix] w _
  go_enter Tryd.func6, Tryd.ntmps6
  go_wp2_with fail
  generalize w.alloc (.cells #[.slice S Sn Sc, .slice I In Ic, .slice F Fn Fc, .int .i64 pg, .int .i64 mo, .slice G Gn Gc, .slice E En Ec, .slice D Dn Dc] 40) = W0 at B0 HK ⊢
  refine (szModule_c (⟨(S, Sn, Sc), (I, In, Ic), (F, Fn, Fc), pg, mo, (G, Gn, Gc), (E, En, Ec), (D, Dn, Dc), sigs, imps, funs, glos, exps, dats⟩ : MV) 1048576 W0 (HR.out.bel B0.out) HX.out (by omega) (by omega)).mono ?_
  rintro e w1 ⟨h, hb⟩
  have B1 := hide (bel_step B0.out hb B0.out.size)
  have K1 := hide (HK.out.bel hb)
  clear hb
  rcases h with rfl | ⟨r, hr0, hr1, hL, rfl⟩
  · go_wp2_with fail
    go_ret
    exact ⟨rfl, B1.out⟩
  have HL := hide hL
  clear hL HX B0 HK
  have p0 : w1.cell? ⟨w.heap.size, 0, none⟩ = some (.slice S Sn Sc) := K1.out.cell 0
  have p1 : w1.cell? ⟨w.heap.size, 1, none⟩ = some (.slice I In Ic) := K1.out.cell 1
  have p2 : w1.cell? ⟨w.heap.size, 2, none⟩ = some (.slice F Fn Fc) := K1.out.cell 2
  have p3 : w1.cell? ⟨w.heap.size, 3, none⟩ = some (.int .i64 pg) := K1.out.cell 3
  have p4 : w1.cell? ⟨w.heap.size, 4, none⟩ = some (.int .i64 mo) := K1.out.cell 4
  have p5 : w1.cell? ⟨w.heap.size, 5, none⟩ = some (.slice G Gn Gc) := K1.out.cell 5
  have p6 : w1.cell? ⟨w.heap.size, 6, none⟩ = some (.slice E En Ec) := K1.out.cell 6
  have p7 : w1.cell? ⟨w.heap.size, 7, none⟩ = some (.slice D Dn Dc) := K1.out.cell 7
  go_wp2_with fail
  refine (toModule_c (⟨(S, Sn, Sc), (I, In, Ic), (F, Fn, Fc), pg, mo, (G, Gn, Gc), (E, En, Ec), (D, Dn, Dc), sigs, imps, funs, glos, exps, dats⟩ : MV) w1 (HR.out.bel B1.out) HL.out).mono ?_
  rintro e w2 ⟨m2, rfl, hpl, ho, hlg, hb⟩
  have HF2 := hide (show sigQ m2.pl ix = (sp, sr, ok) by rw [hpl]; exact HRR.out)
  have O2 := hide ho.reads
  have L2 := hide hlg
  have B2 := hide (bel_step B1.out hb B1.out.size)
  have K2 := hide (K1.out.bel hb)
  clear hpl ho hlg hb p0 p1 p2 p3 p4 p5 p6 p7 B1 K1
  go_wp2_with fail
  have HS2 := hide (sSigOf m2 ix w2 O2.out L2.out H63.out)
  rw [HF2.out] at HS2
  refine HS2.out.mono ?_
  rintro e w3 ⟨rfl, hb⟩
  have B3 := hide (bel_step B2.out hb B2.out.size)
  have K3 := hide (K2.out.bel hb)
  clear hb B2 K2 O2 L2 HF2 HS2
  have B3a := hide (B3.out.alloc B3.out.size (.cells #[.int .i64 sp, .int .i64 sr] 55))
  have K3a := hide (K3.out.alloc (.cells #[.int .i64 sp, .int .i64 sr] 55))
  have Q3a := hide (Blk.new w3 #[.int .i64 sp, .int .i64 sr] 55)
  clear B3 K3
  have p0 : (w3.alloc (.cells #[.int .i64 sp, .int .i64 sr] 55)).cell? ⟨w.heap.size, 0, none⟩ = some (.slice S Sn Sc) := K3a.out.cell 0
  have p1 : (w3.alloc (.cells #[.int .i64 sp, .int .i64 sr] 55)).cell? ⟨w.heap.size, 1, none⟩ = some (.slice I In Ic) := K3a.out.cell 1
  have p2 : (w3.alloc (.cells #[.int .i64 sp, .int .i64 sr] 55)).cell? ⟨w.heap.size, 2, none⟩ = some (.slice F Fn Fc) := K3a.out.cell 2
  have p3 : (w3.alloc (.cells #[.int .i64 sp, .int .i64 sr] 55)).cell? ⟨w.heap.size, 3, none⟩ = some (.int .i64 pg) := K3a.out.cell 3
  have p4 : (w3.alloc (.cells #[.int .i64 sp, .int .i64 sr] 55)).cell? ⟨w.heap.size, 4, none⟩ = some (.int .i64 mo) := K3a.out.cell 4
  have p5 : (w3.alloc (.cells #[.int .i64 sp, .int .i64 sr] 55)).cell? ⟨w.heap.size, 5, none⟩ = some (.slice G Gn Gc) := K3a.out.cell 5
  have p6 : (w3.alloc (.cells #[.int .i64 sp, .int .i64 sr] 55)).cell? ⟨w.heap.size, 6, none⟩ = some (.slice E En Ec) := K3a.out.cell 6
  have p7 : (w3.alloc (.cells #[.int .i64 sp, .int .i64 sr] 55)).cell? ⟨w.heap.size, 7, none⟩ = some (.slice D Dn Dc) := K3a.out.cell 7
  go_wp2_with fail
  clear p0 p1 p2 p3 p4 p5 p6 p7
  generalize w3.alloc (.cells #[.int .i64 sp, .int .i64 sr] 55) = W3 at B3a K3a Q3a ⊢
  refine (toModule_c (⟨(S, Sn, Sc), (I, In, Ic), (F, Fn, Fc), pg, mo, (G, Gn, Gc), (E, En, Ec), (D, Dn, Dc), sigs, imps, funs, glos, exps, dats⟩ : MV) W3 (HR.out.bel B3a.out) HL.out).mono ?_
  rintro e w4 ⟨m4, rfl, hpl, ho, hlg, hb⟩
  have HF4 := hide (show sigQ m4.pl ix = (sp, sr, ok) by rw [hpl]; exact HRR.out)
  have HP4 := hide hpl
  have O4 := hide ho
  have L4 := hide hlg
  have B4 := hide (bel_step B3a.out hb B3a.out.size)
  have K4 := hide (K3a.out.bel hb)
  have Q4 := hide (Q3a.out.bel hb)
  clear hpl ho hlg hb B3a K3a Q3a
  obtain ⟨⟨S4, Sn4, Sc4⟩, ⟨I4, In4, Ic4⟩, ⟨F4, Fn4, Fc4⟩, pg4, mo4, ⟨G4, Gn4, Gc4⟩, ⟨E4, En4, Ec4⟩, ⟨D4, Dn4, Dc4⟩, sigs4, imps4, funs4, glos4, exps4, dats4⟩ := m4
  have e4 : (⟨(S4, Sn4, Sc4), (I4, In4, Ic4), (F4, Fn4, Fc4), pg4, mo4, (G4, Gn4, Gc4), (E4, En4, Ec4), (D4, Dn4, Dc4), sigs4, imps4, funs4, glos4, exps4, dats4⟩ : MV).v = .agg #[.slice S4 Sn4 Sc4, .slice I4 In4 Ic4, .slice F4 Fn4 Fc4, .int .i64 pg4, .int .i64 mo4, .slice G4 Gn4 Gc4, .slice E4 En4 Ec4, .slice D4 Dn4 Dc4] := rfl
  rw [e4]
  clear e4
  have B4a := hide (B4.out.alloc B4.out.size (.cells #[.slice S4 Sn4 Sc4, .slice I4 In4 Ic4, .slice F4 Fn4 Fc4, .int .i64 pg4, .int .i64 mo4, .slice G4 Gn4 Gc4, .slice E4 En4 Ec4, .slice D4 Dn4 Dc4] 50))
  have K4a := hide (K4.out.alloc (.cells #[.slice S4 Sn4 Sc4, .slice I4 In4 Ic4, .slice F4 Fn4 Fc4, .int .i64 pg4, .int .i64 mo4, .slice G4 Gn4 Gc4, .slice E4 En4 Ec4, .slice D4 Dn4 Dc4] 50))
  have Q4a := hide (Q4.out.alloc (.cells #[.slice S4 Sn4 Sc4, .slice I4 In4 Ic4, .slice F4 Fn4 Fc4, .int .i64 pg4, .int .i64 mo4, .slice G4 Gn4 Gc4, .slice E4 En4 Ec4, .slice D4 Dn4 Dc4] 50))
  have J4 := hide (Blk.new w4 #[.slice S4 Sn4 Sc4, .slice I4 In4 Ic4, .slice F4 Fn4 Fc4, .int .i64 pg4, .int .i64 mo4, .slice G4 Gn4 Gc4, .slice E4 En4 Ec4, .slice D4 Dn4 Dc4] 50)
  have O4a := hide (O4.out.below ((Below.refl _ _).alloc (Nat.le_refl _) (.cells #[.slice S4 Sn4 Sc4, .slice I4 In4 Ic4, .slice F4 Fn4 Fc4, .int .i64 pg4, .int .i64 mo4, .slice G4 Gn4 Gc4, .slice E4 En4 Ec4, .slice D4 Dn4 Dc4] 50)))
  go_wp2_with fail
  generalize w4.alloc (.cells #[.slice S4 Sn4 Sc4, .slice I4 In4 Ic4, .slice F4 Fn4 Fc4, .int .i64 pg4, .int .i64 mo4, .slice G4 Gn4 Gc4, .slice E4 En4 Ec4, .slice D4 Dn4 Dc4] 50) = W4 at B4a K4a Q4a J4 O4a ⊢
  have HS4 := hide (iSigOf (⟨(S4, Sn4, Sc4), (I4, In4, Ic4), (F4, Fn4, Fc4), pg4, mo4, (G4, Gn4, Gc4), (E4, En4, Ec4), (D4, Dn4, Dc4), sigs4, imps4, funs4, glos4, exps4, dats4⟩ : MV) ix W4 O4a.out.reads L4.out (utab_bel HT.out B4a.out) H63.out)
  rw [HF4.out] at HS4
  refine HS4.out.mono ?_
  rintro e w5 ⟨rfl, hb⟩
  have B5 := hide (bel_step B4a.out hb B4a.out.size)
  have K5 := hide (K4a.out.bel hb)
  have Q5 := hide (Q4a.out.bel hb)
  have J5 := hide (J4.out.bel hb)
  have O5 := hide (O4a.out.below hb)
  clear hb B4 K4 Q4 B4a K4a Q4a J4 O4 O4a HF4 HS4
  have B5a := hide (B5.out.alloc B5.out.size (.cells #[.int .i64 sp, .int .i64 sr] 55))
  have K5a := hide (K5.out.alloc (.cells #[.int .i64 sp, .int .i64 sr] 55))
  have J5a := hide (J5.out.alloc (.cells #[.int .i64 sp, .int .i64 sr] 55))
  have Q5a := hide (Q5.out.alloc (.cells #[.int .i64 sp, .int .i64 sr] 55))
  have G5a := hide (Blk.new w5 #[.int .i64 sp, .int .i64 sr] 55)
  have O5a := hide (O5.out.below ((Below.refl _ _).alloc (Nat.le_refl _) (.cells #[.int .i64 sp, .int .i64 sr] 55)))
  clear B5 K5 Q5 J5 O5
  have q0 : (w5.alloc (.cells #[.int .i64 sp, .int .i64 sr] 55)).cell? ⟨w3.heap.size, 0, none⟩ = some (.int .i64 sp) := Q5a.out.cell 0
  have q1 : (w5.alloc (.cells #[.int .i64 sp, .int .i64 sr] 55)).cell? ⟨w3.heap.size, 1, none⟩ = some (.int .i64 sr) := Q5a.out.cell 1
  have hnn : (ok != ok) = false := by simp
  go_wp2_with fail
  generalize w5.alloc (.cells #[.int .i64 sp, .int .i64 sr] 55) = W5 at B5a K5a Q5a G5a J5a O5a q0 q1 ⊢
  refine (eqSig_c sp sr W5).mono ?_
  rintro e W6 ⟨rfl, hb⟩
  have B6 := hide (bel_step B5a.out hb B5a.out.size)
  have K6 := hide (K5a.out.bel hb)
  have J6 := hide (J5a.out.bel hb)
  have O6a := hide (O5a.out.below hb)
  clear hb B5a K5a J5a O5a Q5a G5a q0 q1
  have HPc := hide (show ∀ W, Below W6.heap.size W6 W → W.cell? ⟨w.heap.size, 0, none⟩ = some (.slice S Sn Sc) ∧ W.cell? ⟨w.heap.size, 1, none⟩ = some (.slice I In Ic) ∧ W.cell? ⟨w.heap.size, 2, none⟩ = some (.slice F Fn Fc) ∧ W.cell? ⟨w.heap.size, 3, none⟩ = some (.int .i64 pg) ∧ W.cell? ⟨w.heap.size, 4, none⟩ = some (.int .i64 mo) ∧ W.cell? ⟨w.heap.size, 5, none⟩ = some (.slice G Gn Gc) ∧ W.cell? ⟨w.heap.size, 6, none⟩ = some (.slice E En Ec) ∧ W.cell? ⟨w.heap.size, 7, none⟩ = some (.slice D Dn Dc) ∧ W.cell? ⟨w4.heap.size, 0, none⟩ = some (.slice S4 Sn4 Sc4) ∧ W.cell? ⟨w4.heap.size, 1, none⟩ = some (.slice I4 In4 Ic4) ∧ W.cell? ⟨w4.heap.size, 2, none⟩ = some (.slice F4 Fn4 Fc4) ∧ W.cell? ⟨w4.heap.size, 3, none⟩ = some (.int .i64 pg4) ∧ W.cell? ⟨w4.heap.size, 4, none⟩ = some (.int .i64 mo4) ∧ W.cell? ⟨w4.heap.size, 5, none⟩ = some (.slice G4 Gn4 Gc4) ∧ W.cell? ⟨w4.heap.size, 6, none⟩ = some (.slice E4 En4 Ec4) ∧ W.cell? ⟨w4.heap.size, 7, none⟩ = some (.slice D4 Dn4 Dc4) from fun W D => ⟨(K6.out.bel D).cell 0, (K6.out.bel D).cell 1, (K6.out.bel D).cell 2, (K6.out.bel D).cell 3, (K6.out.bel D).cell 4, (K6.out.bel D).cell 5, (K6.out.bel D).cell 6, (K6.out.bel D).cell 7, (J6.out.bel D).cell 0, (J6.out.bel D).cell 1, (J6.out.bel D).cell 2, (J6.out.bel D).cell 3, (J6.out.bel D).cell 4, (J6.out.bel D).cell 5, (J6.out.bel D).cell 6, (J6.out.bel D).cell 7⟩)
  have DN := hide (show Below W6.heap.size W6 W6.drew from bel_drewN (Below.refl _ _) 1)
  go_wp2_with fail
  go_region_held (fun W => W.cell? ⟨w.heap.size, 0, none⟩ = some (.slice S Sn Sc) ∧ W.cell? ⟨w.heap.size, 1, none⟩ = some (.slice I In Ic) ∧ W.cell? ⟨w.heap.size, 2, none⟩ = some (.slice F Fn Fc) ∧ W.cell? ⟨w.heap.size, 3, none⟩ = some (.int .i64 pg) ∧ W.cell? ⟨w.heap.size, 4, none⟩ = some (.int .i64 mo) ∧ W.cell? ⟨w.heap.size, 5, none⟩ = some (.slice G Gn Gc) ∧ W.cell? ⟨w.heap.size, 6, none⟩ = some (.slice E En Ec) ∧ W.cell? ⟨w.heap.size, 7, none⟩ = some (.slice D Dn Dc) ∧ W.cell? ⟨w4.heap.size, 0, none⟩ = some (.slice S4 Sn4 Sc4) ∧ W.cell? ⟨w4.heap.size, 1, none⟩ = some (.slice I4 In4 Ic4) ∧ W.cell? ⟨w4.heap.size, 2, none⟩ = some (.slice F4 Fn4 Fc4) ∧ W.cell? ⟨w4.heap.size, 3, none⟩ = some (.int .i64 pg4) ∧ W.cell? ⟨w4.heap.size, 4, none⟩ = some (.int .i64 mo4) ∧ W.cell? ⟨w4.heap.size, 5, none⟩ = some (.slice G4 Gn4 Gc4) ∧ W.cell? ⟨w4.heap.size, 6, none⟩ = some (.slice E4 En4 Ec4) ∧ W.cell? ⟨w4.heap.size, 7, none⟩ = some (.slice D4 Dn4 Dc4)) (exact HPc.out _ DN.out) (first
    | (go_at_call 20
       have hq := O6
       refine (eqModule_c (⟨(S4, Sn4, Sc4), (I4, In4, Ic4), (F4, Fn4, Fc4), pg4, mo4, (G4, Gn4, Gc4), (E4, En4, Ec4), (D4, Dn4, Dc4), sigs4, imps4, funs4, glos4, exps4, dats4⟩ : MV) m6 _ (O6a.out.reads.bel DN.out) O6.out L4.out L6.out (by rw [HP4.out, HP6.out])).mono ?_
       rintro e w7 ⟨rfl, hb⟩
       replace DN := hide (bel_step DN.out hb DN.out.size)
       clear hb)
    | (go_at_call 18
       refine (toModule_c (⟨(S, Sn, Sc), (I, In, Ic), (F, Fn, Fc), pg, mo, (G, Gn, Gc), (E, En, Ec), (D, Dn, Dc), sigs, imps, funs, glos, exps, dats⟩ : MV) _ (HR.out.bel (B6.out.trans (DN.out.mono B6.out.size))) HL.out).mono ?_
       rintro e w6 ⟨m6, rfl, hpl, ho, hlg, hb⟩
       have HP6 := hide hpl
       have O6 := hide ho.reads
       have L6 := hide hlg
       replace DN := hide (bel_step DN.out hb DN.out.size)
       clear hpl ho hlg hb))
  go_wp2_with fail
  go_ret
  exact ⟨rfl, B6.out.trans (DN.out.mono B6.out.size)⟩
theorem fnExactSigOf_walk (a0 : MV) (a1 : Int) (w : World) (w0 : a0.Reads w ∧ a0.Long 9223372036854775807) (w1 : (Lit.int .i64 a1).wf = true) (hL : laidMetH Tryd.prog Rows.fnExactSigOfRow.laid w) :
    Calls Tryd.prog 6 #[a0.v, .int .i64 a1] w fun e w' => e = .returned (.bool true) ∧ Below w.heap.size w w' :=
  fnExactSigOf_core a0 a1 w _ rfl w0.1 w0.2 (sg_tabs hL) (by have h := w1; simp [Lit.wf, IntKind.min, IntKind.max, IntKind.bits, IntKind.signed] at h; omega)
end Go.Proofs.YtiinkfejdnfonaaDoor
