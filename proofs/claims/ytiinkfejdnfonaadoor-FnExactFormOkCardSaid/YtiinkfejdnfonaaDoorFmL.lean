/- The law on FormOk, walked. -/
import Derived.Test.YtiinkfejdnfonaaDoorFmI
import Derived.Test.YtiinkfejdnfonaaDoorFmS
import Derived.Test.YtiinkfejdnfonaaDoorMoO
import Derived.Test.YtiinkfejdnfonaaDoorRows
import Derived.Below
import Derived.Stop.LaidErr
import Derived.StillTailTactics
import Derived.Deep.RegionHeld
namespace Go.Proofs.YtiinkfejdnfonaaDoor
open Go.RowKit Go.Proofs.YtiinkfejdnfonaaDoor.Num Go.Proofs.YtiinkfejdnfonaaDoor.NumC Go.Proofs.YtiinkfejdnfonaaDoor.Mem Go.Proofs.YtiinkfejdnfonaaDoor.Utf Go.Proofs.YtiinkfejdnfonaaDoor.Mo
set_option linter.unusedVariables false
set_option maxRecDepth 100000
theorem fmU8x : U8Extra Tryd.prog Tryd.lays196_ren := by
  constructor <;> kernel_rfl
theorem fm_tabs {W : World} (h : laidMetH Tryd.prog Rows.fnExactFormOkRow.laid W) : UTab W := by
  have h4 := Lib.laidMet.reads h (n := "unicode/utf8.acceptRanges") (d := Rows.laid_unicode_utf8_acceptRanges) (by simp [Rows.fnExactFormOkRow])
  have h3 := Lib.laidMet.reads h (n := "unicode/utf8.first") (d := Rows.laid_unicode_utf8_first) (by simp [Rows.fnExactFormOkRow])
  have e3 : Rows.laid_unicode_utf8_first = Lib.firstData := Pinned.utf8First_eq
  have e4 : (Rows.laid_unicode_utf8_acceptRanges : DataW Unit) = Lib.acceptData := by kernel_rfl
  rw [e3] at h3
  rw [e4] at h4
  exact utf8Tabs_of_readsT (U8Types.of196 Tryd.lays196) fmU8x h3 h4
theorem own_drew {m : MV} {W : World} {base : Nat} (h : m.Own W base) : m.Own W.drew base := ⟨h.S, h.I, h.F, h.FB, h.G, h.E, h.D, h.DB⟩
set_option maxHeartbeats 4000000 in
theorem fnExactFormOk_core (m : MV) (w : World) (R : Bool) (hRR : formR m.pl = R) (hR : m.Reads w) (hX : m.Long 9223372036854775807) (hT : UTab w) :
    Calls Tryd.prog 5 #[m.v] w fun e w' => e = .returned (.bool true) ∧ Below w.heap.size w w' := by
  obtain ⟨⟨S, Sn, Sc⟩, ⟨I, In, Ic⟩, ⟨F, Fn, Fc⟩, pg, mo, ⟨G, Gn, Gc⟩, ⟨E, En, Ec⟩, ⟨D, Dn, Dc⟩, sigs, imps, funs, glos, exps, dats⟩ := m
  have HRR := hide hRR
  have HR := hide hR
  have HX := hide hX
  have HT := hide hT
  have hrr : (R == R) = true := by simp
  have B0 := hide ((Below.refl w.heap.size w).alloc (Nat.le_refl _) (.cells #[.slice S Sn Sc, .slice I In Ic, .slice F Fn Fc, .int .i64 pg, .int .i64 mo, .slice G Gn Gc, .slice E En Ec, .slice D Dn Dc] 40))
  have HK := hide (Blk.new w #[.slice S Sn Sc, .slice I In Ic, .slice F Fn Fc, .int .i64 pg, .int .i64 mo, .slice G Gn Gc, .slice E En Ec, .slice D Dn Dc] 40)
  clear hRR hR hX hT
  change Calls Tryd.prog 5 #[.agg #[.slice S Sn Sc, .slice I In Ic, .slice F Fn Fc, .int .i64 pg, .int .i64 mo, .slice G Gn Gc, .slice E En Ec, .slice D Dn Dc]] w _
  go_enter Tryd.func5, Tryd.ntmps5
  go_wp2_with fail
  generalize w.alloc (.cells #[.slice S Sn Sc, .slice I In Ic, .slice F Fn Fc, .int .i64 pg, .int .i64 mo, .slice G Gn Gc, .slice E En Ec, .slice D Dn Dc] 40) = W0 at B0 HK ⊢
  refine (szModule_c (⟨(S, Sn, Sc), (I, In, Ic), (F, Fn, Fc), pg, mo, (G, Gn, Gc), (E, En, Ec), (D, Dn, Dc), sigs, imps, funs, glos, exps, dats⟩ : MV) 1048576 W0 (HR.out.bel B0.out) HX.out (by omega) (by omega)).mono ?_
  rintro e w1 ⟨h, hb⟩
  have B1 := hide (bel_step B0.out hb B0.out.size)
  have K1 := hide (HK.out.bel hb)
  clear hb
  rcases h with rfl | ⟨r, hr0, hr1, hL, rfl⟩
  · go_wp2_with fail
    go_ret
    exact ⟨rfl, B1.out⟩
  have HL := hide hL
  clear hL HX B0 HK
  have p0 : w1.cell? ⟨w.heap.size, 0, none⟩ = some (.slice S Sn Sc) := K1.out.cell 0
  have p1 : w1.cell? ⟨w.heap.size, 1, none⟩ = some (.slice I In Ic) := K1.out.cell 1
  have p2 : w1.cell? ⟨w.heap.size, 2, none⟩ = some (.slice F Fn Fc) := K1.out.cell 2
  have p3 : w1.cell? ⟨w.heap.size, 3, none⟩ = some (.int .i64 pg) := K1.out.cell 3
  have p4 : w1.cell? ⟨w.heap.size, 4, none⟩ = some (.int .i64 mo) := K1.out.cell 4
  have p5 : w1.cell? ⟨w.heap.size, 5, none⟩ = some (.slice G Gn Gc) := K1.out.cell 5
  have p6 : w1.cell? ⟨w.heap.size, 6, none⟩ = some (.slice E En Ec) := K1.out.cell 6
  have p7 : w1.cell? ⟨w.heap.size, 7, none⟩ = some (.slice D Dn Dc) := K1.out.cell 7
  go_wp2_with fail
  refine (toModule_c (⟨(S, Sn, Sc), (I, In, Ic), (F, Fn, Fc), pg, mo, (G, Gn, Gc), (E, En, Ec), (D, Dn, Dc), sigs, imps, funs, glos, exps, dats⟩ : MV) w1 (HR.out.bel B1.out) HL.out).mono ?_
  rintro e w2 ⟨m2, rfl, hpl, ho, hlg, hb⟩
  have HF2 := hide (show formR m2.pl = R by rw [hpl]; exact HRR.out)
  have O2 := hide ho.reads
  have L2 := hide hlg
  have B2 := hide (bel_step B1.out hb B1.out.size)
  have K2 := hide (K1.out.bel hb)
  clear hpl ho hlg hb p0 p1 p2 p3 p4 p5 p6 p7 B1 K1
  go_wp2_with fail
  refine (sFormOk m2 w2 O2.out L2.out).mono ?_
  rintro e w3 ⟨rfl, hb⟩
  rw [HF2.out]
  have B3 := hide (bel_step B2.out hb B2.out.size)
  have K3 := hide (K2.out.bel hb)
  clear hb B2 K2 O2 L2 HF2
  have p0 : w3.cell? ⟨w.heap.size, 0, none⟩ = some (.slice S Sn Sc) := K3.out.cell 0
  have p1 : w3.cell? ⟨w.heap.size, 1, none⟩ = some (.slice I In Ic) := K3.out.cell 1
  have p2 : w3.cell? ⟨w.heap.size, 2, none⟩ = some (.slice F Fn Fc) := K3.out.cell 2
  have p3 : w3.cell? ⟨w.heap.size, 3, none⟩ = some (.int .i64 pg) := K3.out.cell 3
  have p4 : w3.cell? ⟨w.heap.size, 4, none⟩ = some (.int .i64 mo) := K3.out.cell 4
  have p5 : w3.cell? ⟨w.heap.size, 5, none⟩ = some (.slice G Gn Gc) := K3.out.cell 5
  have p6 : w3.cell? ⟨w.heap.size, 6, none⟩ = some (.slice E En Ec) := K3.out.cell 6
  have p7 : w3.cell? ⟨w.heap.size, 7, none⟩ = some (.slice D Dn Dc) := K3.out.cell 7
  go_wp2_with fail
  refine (toModule_c (⟨(S, Sn, Sc), (I, In, Ic), (F, Fn, Fc), pg, mo, (G, Gn, Gc), (E, En, Ec), (D, Dn, Dc), sigs, imps, funs, glos, exps, dats⟩ : MV) w3 (HR.out.bel B3.out) HL.out).mono ?_
  rintro e w4 ⟨m4, rfl, hpl, ho, hlg, hb⟩
  have HF4 := hide (show formR m4.pl = R by rw [hpl]; exact HRR.out)
  have HP4 := hide hpl
  have O4 := hide ho
  have L4 := hide hlg
  have B4 := hide (bel_step B3.out hb B3.out.size)
  have K4 := hide (K3.out.bel hb)
  clear hpl ho hlg hb p0 p1 p2 p3 p4 p5 p6 p7 B3 K3
  obtain ⟨⟨S4, Sn4, Sc4⟩, ⟨I4, In4, Ic4⟩, ⟨F4, Fn4, Fc4⟩, pg4, mo4, ⟨G4, Gn4, Gc4⟩, ⟨E4, En4, Ec4⟩, ⟨D4, Dn4, Dc4⟩, sigs4, imps4, funs4, glos4, exps4, dats4⟩ := m4
  have e4 : (⟨(S4, Sn4, Sc4), (I4, In4, Ic4), (F4, Fn4, Fc4), pg4, mo4, (G4, Gn4, Gc4), (E4, En4, Ec4), (D4, Dn4, Dc4), sigs4, imps4, funs4, glos4, exps4, dats4⟩ : MV).v = .agg #[.slice S4 Sn4 Sc4, .slice I4 In4 Ic4, .slice F4 Fn4 Fc4, .int .i64 pg4, .int .i64 mo4, .slice G4 Gn4 Gc4, .slice E4 En4 Ec4, .slice D4 Dn4 Dc4] := rfl
  rw [e4]
  clear e4
  have B4a := hide (B4.out.alloc B4.out.size (.cells #[.slice S4 Sn4 Sc4, .slice I4 In4 Ic4, .slice F4 Fn4 Fc4, .int .i64 pg4, .int .i64 mo4, .slice G4 Gn4 Gc4, .slice E4 En4 Ec4, .slice D4 Dn4 Dc4] 50))
  have K4a := hide (K4.out.alloc (.cells #[.slice S4 Sn4 Sc4, .slice I4 In4 Ic4, .slice F4 Fn4 Fc4, .int .i64 pg4, .int .i64 mo4, .slice G4 Gn4 Gc4, .slice E4 En4 Ec4, .slice D4 Dn4 Dc4] 50))
  have J4 := hide (Blk.new w4 #[.slice S4 Sn4 Sc4, .slice I4 In4 Ic4, .slice F4 Fn4 Fc4, .int .i64 pg4, .int .i64 mo4, .slice G4 Gn4 Gc4, .slice E4 En4 Ec4, .slice D4 Dn4 Dc4] 50)
  have O4a := hide (O4.out.below ((Below.refl _ _).alloc (Nat.le_refl _) (.cells #[.slice S4 Sn4 Sc4, .slice I4 In4 Ic4, .slice F4 Fn4 Fc4, .int .i64 pg4, .int .i64 mo4, .slice G4 Gn4 Gc4, .slice E4 En4 Ec4, .slice D4 Dn4 Dc4] 50)))
  go_wp2_with fail
  generalize w4.alloc (.cells #[.slice S4 Sn4 Sc4, .slice I4 In4 Ic4, .slice F4 Fn4 Fc4, .int .i64 pg4, .int .i64 mo4, .slice G4 Gn4 Gc4, .slice E4 En4 Ec4, .slice D4 Dn4 Dc4] 50) = W4 at B4a K4a J4 O4a ⊢
  refine (iFormOk (⟨(S4, Sn4, Sc4), (I4, In4, Ic4), (F4, Fn4, Fc4), pg4, mo4, (G4, Gn4, Gc4), (E4, En4, Ec4), (D4, Dn4, Dc4), sigs4, imps4, funs4, glos4, exps4, dats4⟩ : MV) W4 O4a.out.reads L4.out (utab_bel HT.out B4a.out)).mono ?_
  rintro e w5 ⟨rfl, hb⟩
  rw [HF4.out]
  have B5 := hide (bel_step B4a.out hb B4a.out.size)
  have K5 := hide (K4a.out.bel hb)
  have J5 := hide (J4.out.bel hb)
  have O5 := hide (O4a.out.below hb)
  clear hb B4 K4 B4a K4a J4 O4 O4a HF4
  have HPc := hide (show ∀ W, Below w5.heap.size w5 W → W.cell? ⟨w.heap.size, 0, none⟩ = some (.slice S Sn Sc) ∧ W.cell? ⟨w.heap.size, 1, none⟩ = some (.slice I In Ic) ∧ W.cell? ⟨w.heap.size, 2, none⟩ = some (.slice F Fn Fc) ∧ W.cell? ⟨w.heap.size, 3, none⟩ = some (.int .i64 pg) ∧ W.cell? ⟨w.heap.size, 4, none⟩ = some (.int .i64 mo) ∧ W.cell? ⟨w.heap.size, 5, none⟩ = some (.slice G Gn Gc) ∧ W.cell? ⟨w.heap.size, 6, none⟩ = some (.slice E En Ec) ∧ W.cell? ⟨w.heap.size, 7, none⟩ = some (.slice D Dn Dc) ∧ W.cell? ⟨w4.heap.size, 0, none⟩ = some (.slice S4 Sn4 Sc4) ∧ W.cell? ⟨w4.heap.size, 1, none⟩ = some (.slice I4 In4 Ic4) ∧ W.cell? ⟨w4.heap.size, 2, none⟩ = some (.slice F4 Fn4 Fc4) ∧ W.cell? ⟨w4.heap.size, 3, none⟩ = some (.int .i64 pg4) ∧ W.cell? ⟨w4.heap.size, 4, none⟩ = some (.int .i64 mo4) ∧ W.cell? ⟨w4.heap.size, 5, none⟩ = some (.slice G4 Gn4 Gc4) ∧ W.cell? ⟨w4.heap.size, 6, none⟩ = some (.slice E4 En4 Ec4) ∧ W.cell? ⟨w4.heap.size, 7, none⟩ = some (.slice D4 Dn4 Dc4) from fun W D => ⟨(K5.out.bel D).cell 0, (K5.out.bel D).cell 1, (K5.out.bel D).cell 2, (K5.out.bel D).cell 3, (K5.out.bel D).cell 4, (K5.out.bel D).cell 5, (K5.out.bel D).cell 6, (K5.out.bel D).cell 7, (J5.out.bel D).cell 0, (J5.out.bel D).cell 1, (J5.out.bel D).cell 2, (J5.out.bel D).cell 3, (J5.out.bel D).cell 4, (J5.out.bel D).cell 5, (J5.out.bel D).cell 6, (J5.out.bel D).cell 7⟩)
  have DN := hide (show Below w5.heap.size w5 w5.drew from bel_drewN (Below.refl _ _) 1)
  go_wp2_with fail
  go_region_held (fun W => W.cell? ⟨w.heap.size, 0, none⟩ = some (.slice S Sn Sc) ∧ W.cell? ⟨w.heap.size, 1, none⟩ = some (.slice I In Ic) ∧ W.cell? ⟨w.heap.size, 2, none⟩ = some (.slice F Fn Fc) ∧ W.cell? ⟨w.heap.size, 3, none⟩ = some (.int .i64 pg) ∧ W.cell? ⟨w.heap.size, 4, none⟩ = some (.int .i64 mo) ∧ W.cell? ⟨w.heap.size, 5, none⟩ = some (.slice G Gn Gc) ∧ W.cell? ⟨w.heap.size, 6, none⟩ = some (.slice E En Ec) ∧ W.cell? ⟨w.heap.size, 7, none⟩ = some (.slice D Dn Dc) ∧ W.cell? ⟨w4.heap.size, 0, none⟩ = some (.slice S4 Sn4 Sc4) ∧ W.cell? ⟨w4.heap.size, 1, none⟩ = some (.slice I4 In4 Ic4) ∧ W.cell? ⟨w4.heap.size, 2, none⟩ = some (.slice F4 Fn4 Fc4) ∧ W.cell? ⟨w4.heap.size, 3, none⟩ = some (.int .i64 pg4) ∧ W.cell? ⟨w4.heap.size, 4, none⟩ = some (.int .i64 mo4) ∧ W.cell? ⟨w4.heap.size, 5, none⟩ = some (.slice G4 Gn4 Gc4) ∧ W.cell? ⟨w4.heap.size, 6, none⟩ = some (.slice E4 En4 Ec4) ∧ W.cell? ⟨w4.heap.size, 7, none⟩ = some (.slice D4 Dn4 Dc4)) (exact HPc.out _ DN.out) (first
    | (go_at_call 20
       have hq := O6
       refine (eqModule_c (⟨(S4, Sn4, Sc4), (I4, In4, Ic4), (F4, Fn4, Fc4), pg4, mo4, (G4, Gn4, Gc4), (E4, En4, Ec4), (D4, Dn4, Dc4), sigs4, imps4, funs4, glos4, exps4, dats4⟩ : MV) m6 _ (O5.out.reads.bel DN.out) O6.out L4.out L6.out (by rw [HP4.out, HP6.out])).mono ?_
       rintro e w7 ⟨rfl, hb⟩
       replace DN := hide (bel_step DN.out hb DN.out.size)
       clear hb)
    | (go_at_call 18
       refine (toModule_c (⟨(S, Sn, Sc), (I, In, Ic), (F, Fn, Fc), pg, mo, (G, Gn, Gc), (E, En, Ec), (D, Dn, Dc), sigs, imps, funs, glos, exps, dats⟩ : MV) _ (HR.out.bel (B5.out.trans (DN.out.mono B5.out.size))) HL.out).mono ?_
       rintro e w6 ⟨m6, rfl, hpl, ho, hlg, hb⟩
       have HP6 := hide hpl
       have O6 := hide ho.reads
       have L6 := hide hlg
       replace DN := hide (bel_step DN.out hb DN.out.size)
       clear hpl ho hlg hb))
  go_wp2_with fail
  go_ret
  exact ⟨rfl, B5.out.trans (DN.out.mono B5.out.size)⟩
theorem fnExactFormOk_walk (a0 : MV) (w : World) (w0 : a0.Reads w ∧ a0.Long 9223372036854775807) (hL : laidMetH Tryd.prog Rows.fnExactFormOkRow.laid w) :
    Calls Tryd.prog 5 #[a0.v] w fun e w' => e = .returned (.bool true) ∧ Below w.heap.size w w' :=
  fnExactFormOk_core a0 w _ rfl w0.1 w0.2 (fm_tabs hL)
end Go.Proofs.YtiinkfejdnfonaaDoor
