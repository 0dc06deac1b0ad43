/- The laws' own size, copy and comparison of a whole module: a contract each. -/
import Derived.Test.YtiinkfejdnfonaaGreatDoorModF
namespace Go.Proofs.YtiinkfejdnfonaaGreatDoor.Mo
open Go.RowKit Go.Proofs.YtiinkfejdnfonaaGreatDoor.Num Go.Proofs.YtiinkfejdnfonaaGreatDoor.Mem Go.Proofs.YtiinkfejdnfonaaGreatDoor.Shape
set_option linter.unusedVariables false
/-- a block holds a row of cells -/
def Blk (W : World) (b : Nat) (cs : Array Value) (t : TypeId) : Prop := W.heap[b]? = some (.cells cs t (0, 0))
section
variable {W W' : World} {b b' j : Nat} {cs : Array Value} {t : TypeId} {v : Value}
theorem Blk.new (W : World) (cs : Array Value) (t : TypeId) : Blk (W.alloc (.cells cs t)) W.heap.size cs t := heap_alloc_new W _
theorem Blk.lt (h : Blk W b cs t) : b < W.heap.size := (Array.getElem?_eq_some_iff.1 h).1
theorem Blk.cell (h : Blk W b cs t) (j : Nat) : W.cell? ⟨b, j, none⟩ = cs[j]? := cell_of_row W b j cs t (0, 0) h
theorem Blk.frozen (h : Blk W b cs t) (j : Nat) : W.frozen? ⟨b, j, none⟩ = false := frozen_of_row W b j cs t h
theorem Blk.bel (h : Blk W b cs t) (hb : Below W.heap.size W W') : Blk W' b cs t := (hb.block b h.lt).trans h
theorem Blk.set (h : Blk W b cs t) (j : Nat) (v : Value) : Blk (W.setCell ⟨b, j, none⟩ v) b (cs.setIfInBounds j v) t := heap_setCell_same W b j cs t v h
theorem Blk.other (h : Blk W b cs t) (hb : b ≠ b') : Blk (W.setCell ⟨b', j, none⟩ v) b cs t := (heap_setCell_other W ⟨b', j, none⟩ b v hb).trans h
theorem Blk.alloc (h : Blk W b cs t) (o : Obj) : Blk (W.alloc o) b cs t := (heap_alloc_old W o h.lt).trans h
end
/-- a module in memory: the heads of its lists, and what they hold -/
structure MV where
  sh : Hd
  ih : Hd
  fh : Hd
  pages : Int
  most : Int
  gh : Hd
  eh : Hd
  dh : Hd
  sigs : List Sig2
  imps : List Imp3
  funs : List FV
  glos : List Glo2
  exps : List Exp3
  dats : List DV
def MV.cs (m : MV) : Array Value := #[hv m.sh, hv m.ih, hv m.fh, .int .i64 m.pages, .int .i64 m.most, hv m.gh, hv m.eh, hv m.dh]
def MV.v (m : MV) : Value := .agg m.cs
/-- a module, plain -/
structure Md where
  sigs : List Sig2
  imps : List Imp3
  funs : List Fun3
  pages : Int
  most : Int
  glos : List Glo2
  exps : List Exp3
  dats : List Dat2
def MV.pl (m : MV) : Md := ⟨m.sigs, m.imps, m.funs.map FV.pl, m.pages, m.most, m.glos, m.exps, m.dats.map DV.pl⟩
/-- its lists can be read -/
structure MV.Reads (m : MV) (W : World) : Prop where
  S : Rd W W.heap.size 2 m.sh.1 m.sh.2.1 (fl sigC m.sigs)
  I : Rd W W.heap.size 3 m.ih.1 m.ih.2.1 (fl impC m.imps)
  F : Rd W W.heap.size 3 m.fh.1 m.fh.2.1 (fl funC m.funs)
  FB : ∀ x ∈ m.funs, Rd W W.heap.size 3 x.hd.1 x.hd.2.1 (insC x.body)
  G : Rd W W.heap.size 2 m.gh.1 m.gh.2.1 (fl gloC m.glos)
  E : Rd W W.heap.size 3 m.eh.1 m.eh.2.1 (fl expC m.exps)
  D : Rd W W.heap.size 2 m.dh.1 m.dh.2.1 (fl datC m.dats)
  DB : ∀ x ∈ m.dats, Rd W W.heap.size 1 x.hd.1 x.hd.2.1 (by8 x.bytes)
theorem MV.Reads.bel {m : MV} {W W' : World} (h : m.Reads W) (hb : Below W.heap.size W W') : m.Reads W' :=
  ⟨h.S.bel hb, h.I.bel hb, h.F.bel hb, fun x hx => (h.FB x hx).bel hb, h.G.bel hb, h.E.bel hb, h.D.bel hb, fun x hx => (h.DB x hx).bel hb⟩
/-- how long its lists and texts are, at most -/
structure MV.Long (m : MV) (L : Int) : Prop where
  S : (m.sh.2.1 : Int) ≤ L
  I : (m.ih.2.1 : Int) ≤ L
  IS : ∀ x ∈ m.imps, (x.1.size : Int) ≤ L ∧ (x.2.1.size : Int) ≤ L
  F : (m.fh.2.1 : Int) ≤ L
  FS : ∀ x ∈ m.funs, (x.hd.2.1 : Int) ≤ L
  G : (m.gh.2.1 : Int) ≤ L
  E : (m.eh.2.1 : Int) ≤ L
  ES : ∀ x ∈ m.exps, (x.1.size : Int) ≤ L
  D : (m.dh.2.1 : Int) ≤ L
  DS : ∀ x ∈ m.dats, (x.hd.2.1 : Int) ≤ L
/-- its lists are the call's own -/
structure MV.Own (m : MV) (W : World) (base : Nat) : Prop where
  S : Ow W base 77 2 m.sh.1 m.sh.2.1 m.sh.2.2 (fl sigC m.sigs)
  I : Ow W base 79 3 m.ih.1 m.ih.2.1 m.ih.2.2 (fl impC m.imps)
  F : Ow W base 84 3 m.fh.1 m.fh.2.1 m.fh.2.2 (fl funC m.funs)
  FB : ∃ q, base ≤ q ∧ (∀ g, blk m.fh.1 = some g → g < q) ∧ OwF W q 139 m.funs
  G : Ow W base 87 2 m.gh.1 m.gh.2.1 m.gh.2.2 (fl gloC m.glos)
  E : Ow W base 89 3 m.eh.1 m.eh.2.1 m.eh.2.2 (fl expC m.exps)
  D : Ow W base 93 2 m.dh.1 m.dh.2.1 m.dh.2.2 (fl datC m.dats)
  DB : ∃ q, base ≤ q ∧ (∀ g, blk m.dh.1 = some g → g < q) ∧ OwD W q 5 m.dats
theorem MV.Own.reads {m : MV} {W : World} {base : Nat} (h : m.Own W base) : m.Reads W :=
  ⟨h.S.rd, h.I.rd, h.F.rd, (let ⟨_, _, _, h2⟩ := h.FB; fun x hx => (h2.rd x hx).2), h.G.rd, h.E.rd, h.D.rd, (let ⟨_, _, _, h2⟩ := h.DB; fun x hx => (h2.rd x hx).2)⟩
theorem MV.Own.below {m : MV} {W W' : World} {base : Nat} (h : m.Own W base) (hb : Below W.heap.size W W') : m.Own W' base :=
  ⟨h.S.below hb (Nat.le_refl _), h.I.below hb (Nat.le_refl _), h.F.below hb (Nat.le_refl _), (let ⟨q, h0, h1, h2⟩ := h.FB; ⟨q, h0, h1, h2.below hb⟩), h.G.below hb (Nat.le_refl _), h.E.below hb (Nat.le_refl _), h.D.below hb (Nat.le_refl _), (let ⟨q, h0, h1, h2⟩ := h.DB; ⟨q, h0, h1, h2.below hb⟩)⟩
set_option maxRecDepth 100000 in
set_option maxHeartbeats 1000000 in
theorem szModule_c (m : MV) (left : Int) (w : World) (hR : m.Reads w) (hX : m.Long 9223372036854775807) (h0 : 0 ≤ left) (h1 : left ≤ 1048576) :
    Calls Tryz.prog 5 #[m.v, .int .i64 left] w (SzR left (m.Long 1048576) w) := by
  obtain ⟨⟨S, Sn, Sc⟩, ⟨I, In, Ic⟩, ⟨F, Fn, Fc⟩, pg, mo, ⟨G, Gn, Gc⟩, ⟨E, En, Ec⟩, ⟨D, Dn, Dc⟩, sigs, imps, funs, glos, exps, dats⟩ := m
  have HR := hide hR
  have HX := hide hX
  clear hR hX
  change Calls Tryz.prog 5 #[.agg #[.slice S Sn Sc, .slice I In Ic, .slice F Fn Fc, .int .i64 pg, .int .i64 mo, .slice G Gn Gc, .slice E En Ec, .slice D Dn Dc], .int .i64 left] w _
  go_enter Tryz.func5, Tryz.ntmps5
  go_wp2_with fail
  have HK := hide (Blk.new w #[.slice S Sn Sc, .slice I In Ic, .slice F Fn Fc, .int .i64 pg, .int .i64 mo, .slice G Gn Gc, .slice E En Ec, .slice D Dn Dc] 29)
  have HB := hide ((Below.refl w.heap.size w).alloc (Nat.le_refl _) (.cells #[.slice S Sn Sc, .slice I In Ic, .slice F Fn Fc, .int .i64 pg, .int .i64 mo, .slice G Gn Gc, .slice E En Ec, .slice D Dn Dc] 29))
  generalize w.alloc (.cells #[.slice S Sn Sc, .slice I In Ic, .slice F Fn Fc, .int .i64 pg, .int .i64 mo, .slice G Gn Gc, .slice E En Ec, .slice D Dn Dc] 29) = W0 at HK HB ⊢
  refine (szSigS_c S Sn Sc left _ (by have := HX.out.S; simp only [] at this; omega) h0 h1).mono ?_
  rintro e w1 ⟨h, hb⟩
  replace HK := hide (HK.out.bel hb)
  replace HB := hide (bel_step HB.out hb HB.out.size)
  clear hb
  rcases h with rfl | ⟨r0, hr0, hs0, hF, rfl⟩
  · go_wp2_with fail
    go_ret
    exact ⟨.inl rfl, HB.out⟩
  have HS := hide hF
  have hq0 : r0 ≤ 1048576 := by omega
  have hl0 : r0 ≤ left := by omega
  clear hF
  have p1 : w1.cell? ⟨w.heap.size, 1, none⟩ = some (.slice I In Ic) := HK.out.cell 1
  go_wp2_with fail
  refine (szImportS_c I In Ic imps r0 _ (HR.out.bel HB.out).I (by have := HX.out.I; simp only [] at this; omega) HX.out.IS hr0 hq0).mono ?_
  rintro e w2 ⟨h, hb⟩
  replace HK := hide (HK.out.bel hb)
  replace HB := hide (bel_step HB.out hb HB.out.size)
  clear hb p1
  rcases h with rfl | ⟨r1, hr1, hs1, hF, rfl⟩
  · go_wp2_with fail
    go_ret
    exact ⟨.inl rfl, HB.out⟩
  have HI := hide hF
  have hq1 : r1 ≤ 1048576 := by omega
  have hl1 : r1 ≤ left := by omega
  clear hF
  have p2 : w2.cell? ⟨w.heap.size, 2, none⟩ = some (.slice F Fn Fc) := HK.out.cell 2
  go_wp2_with fail
  refine (szFuncS_c F Fn Fc funs r1 _ (HR.out.bel HB.out).F (by have := HX.out.F; simp only [] at this; omega) HX.out.FS hr1 hq1).mono ?_
  rintro e w3 ⟨h, hb⟩
  replace HK := hide (HK.out.bel hb)
  replace HB := hide (bel_step HB.out hb HB.out.size)
  clear hb p2
  rcases h with rfl | ⟨r2, hr2, hs2, hF, rfl⟩
  · go_wp2_with fail
    go_ret
    exact ⟨.inl rfl, HB.out⟩
  have HF := hide hF
  have hq2 : r2 ≤ 1048576 := by omega
  have hl2 : r2 ≤ left := by omega
  clear hF
  have p5 : w3.cell? ⟨w.heap.size, 5, none⟩ = some (.slice G Gn Gc) := HK.out.cell 5
  go_wp2_with fail
  refine (szGlobalS_c G Gn Gc r2 _ (by have := HX.out.G; simp only [] at this; omega) hr2 hq2).mono ?_
  rintro e w4 ⟨h, hb⟩
  replace HK := hide (HK.out.bel hb)
  replace HB := hide (bel_step HB.out hb HB.out.size)
  clear hb p5
  rcases h with rfl | ⟨r3, hr3, hs3, hF, rfl⟩
  · go_wp2_with fail
    go_ret
    exact ⟨.inl rfl, HB.out⟩
  have HG := hide hF
  have hq3 : r3 ≤ 1048576 := by omega
  have hl3 : r3 ≤ left := by omega
  clear hF
  have p6 : w4.cell? ⟨w.heap.size, 6, none⟩ = some (.slice E En Ec) := HK.out.cell 6
  go_wp2_with fail
  refine (szExportS_c E En Ec exps r3 _ (HR.out.bel HB.out).E (by have := HX.out.E; simp only [] at this; omega) HX.out.ES hr3 hq3).mono ?_
  rintro e w5 ⟨h, hb⟩
  replace HK := hide (HK.out.bel hb)
  replace HB := hide (bel_step HB.out hb HB.out.size)
  clear hb p6
  rcases h with rfl | ⟨r4, hr4, hs4, hF, rfl⟩
  · go_wp2_with fail
    go_ret
    exact ⟨.inl rfl, HB.out⟩
  have HE := hide hF
  have hq4 : r4 ≤ 1048576 := by omega
  have hl4 : r4 ≤ left := by omega
  clear hF
  have p7 : w5.cell? ⟨w.heap.size, 7, none⟩ = some (.slice D Dn Dc) := HK.out.cell 7
  go_wp2_with fail
  refine (szDataS_c D Dn Dc dats r4 _ (HR.out.bel HB.out).D (by have := HX.out.D; simp only [] at this; omega) HX.out.DS hr4 hq4).mono ?_
  rintro e w6 ⟨h, hb⟩
  replace HK := hide (HK.out.bel hb)
  replace HB := hide (bel_step HB.out hb HB.out.size)
  clear hb p7
  rcases h with rfl | ⟨r5, hr5, hs5, hF, rfl⟩
  · go_wp2_with fail
    go_ret
    exact ⟨.inl rfl, HB.out⟩
  have HD := hide hF
  have hq5 : r5 ≤ 1048576 := by omega
  have hl5 : r5 ≤ left := by omega
  clear hF
  go_wp2_with fail
  go_ret
  exact ⟨.inr ⟨r5, hr5, hl5, ⟨by have := HS.out; simp only []; omega, by have := HI.out.1; simp only []; omega, HI.out.2, by have := HF.out.1; simp only []; omega, HF.out.2, by have := HG.out; simp only []; omega, by have := HE.out.1; simp only []; omega, HE.out.2, by have := HD.out.1; simp only []; omega, HD.out.2⟩, rfl⟩, HB.out⟩
/-- a module, copied -/
def MadeM (m : MV) (w : World) (e : Ending) (w' : World) : Prop :=
  ∃ m' : MV, e = .returned m'.v ∧ m'.pl = m.pl ∧ m'.Own w' w.heap.size ∧ m'.Long 1048576 ∧ Below w.heap.size w w'
set_option maxRecDepth 100000 in
set_option maxHeartbeats 4000000 in
theorem toModule_c (m : MV) (w : World) (hR : m.Reads w) (hX : m.Long 1048576) :
    Calls Tryz.prog 7 #[m.v] w (MadeM m w) := by
  obtain ⟨⟨S, Sn, Sc⟩, ⟨I, In, Ic⟩, ⟨F, Fn, Fc⟩, pg, mo, ⟨G, Gn, Gc⟩, ⟨E, En, Ec⟩, ⟨D, Dn, Dc⟩, sigs, imps, funs, glos, exps, dats⟩ := m
  have HR := hide hR
  have HX := hide hX
  have HFd := hide (fun (W : World) (hb : Below w.heap.size w W) => (show RdF W W.heap.size funs from fun x hx => ⟨by have := hX.FS x hx; omega, (hR.FB x hx).bel hb⟩))
  have HDd := hide (fun (W : World) (hb : Below w.heap.size w W) => (show RdD W W.heap.size dats from fun x hx => ⟨by have := hX.DS x hx; omega, (hR.DB x hx).bel hb⟩))
  clear hR hX
  change Calls Tryz.prog 7 #[.agg #[.slice S Sn Sc, .slice I In Ic, .slice F Fn Fc, .int .i64 pg, .int .i64 mo, .slice G Gn Gc, .slice E En Ec, .slice D Dn Dc]] w _
  go_enter Tryz.func7, Tryz.ntmps7
  go_wp2_with fail
  have HK := hide (((Blk.new w #[.slice S Sn Sc, .slice I In Ic, .slice F Fn Fc, .int .i64 pg, .int .i64 mo, .slice G Gn Gc, .slice E En Ec, .slice D Dn Dc] 29).alloc (.cells #[.slice none 0 0, .slice none 0 0, .slice none 0 0, .int .i64 0, .int .i64 0, .slice none 0 0, .slice none 0 0, .slice none 0 0] 41)).alloc (.cells #[.slice none 0 0, .slice none 0 0, .slice none 0 0, .int .i64 0, .int .i64 0, .slice none 0 0, .slice none 0 0, .slice none 0 0] 41))
  have HL := hide (show Blk (((w.alloc (.cells #[.slice S Sn Sc, .slice I In Ic, .slice F Fn Fc, .int .i64 pg, .int .i64 mo, .slice G Gn Gc, .slice E En Ec, .slice D Dn Dc] 29)).alloc (.cells #[.slice none 0 0, .slice none 0 0, .slice none 0 0, .int .i64 0, .int .i64 0, .slice none 0 0, .slice none 0 0, .slice none 0 0] 41)).alloc (.cells #[.slice none 0 0, .slice none 0 0, .slice none 0 0, .int .i64 0, .int .i64 0, .slice none 0 0, .slice none 0 0, .slice none 0 0] 41)) (w.heap.size + 1) #[.slice none 0 0, .slice none 0 0, .slice none 0 0, .int .i64 0, .int .i64 0, .slice none 0 0, .slice none 0 0, .slice none 0 0] 41 by
    have h := (Blk.new (w.alloc (.cells #[.slice S Sn Sc, .slice I In Ic, .slice F Fn Fc, .int .i64 pg, .int .i64 mo, .slice G Gn Gc, .slice E En Ec, .slice D Dn Dc] 29)) #[.slice none 0 0, .slice none 0 0, .slice none 0 0, .int .i64 0, .int .i64 0, .slice none 0 0, .slice none 0 0, .slice none 0 0] 41).alloc (.cells #[.slice none 0 0, .slice none 0 0, .slice none 0 0, .int .i64 0, .int .i64 0, .slice none 0 0, .slice none 0 0, .slice none 0 0] 41)
    simpa using h)
  have HN := hide (show Blk (((w.alloc (.cells #[.slice S Sn Sc, .slice I In Ic, .slice F Fn Fc, .int .i64 pg, .int .i64 mo, .slice G Gn Gc, .slice E En Ec, .slice D Dn Dc] 29)).alloc (.cells #[.slice none 0 0, .slice none 0 0, .slice none 0 0, .int .i64 0, .int .i64 0, .slice none 0 0, .slice none 0 0, .slice none 0 0] 41)).alloc (.cells #[.slice none 0 0, .slice none 0 0, .slice none 0 0, .int .i64 0, .int .i64 0, .slice none 0 0, .slice none 0 0, .slice none 0 0] 41)) (w.heap.size + 1 + 1) #[.slice none 0 0, .slice none 0 0, .slice none 0 0, .int .i64 0, .int .i64 0, .slice none 0 0, .slice none 0 0, .slice none 0 0] 41 by
    have h := Blk.new ((w.alloc (.cells #[.slice S Sn Sc, .slice I In Ic, .slice F Fn Fc, .int .i64 pg, .int .i64 mo, .slice G Gn Gc, .slice E En Ec, .slice D Dn Dc] 29)).alloc (.cells #[.slice none 0 0, .slice none 0 0, .slice none 0 0, .int .i64 0, .int .i64 0, .slice none 0 0, .slice none 0 0, .slice none 0 0] 41)) #[.slice none 0 0, .slice none 0 0, .slice none 0 0, .int .i64 0, .int .i64 0, .slice none 0 0, .slice none 0 0, .slice none 0 0] 41
    simpa using h)
  have HB := hide (show Below w.heap.size w (((w.alloc (.cells #[.slice S Sn Sc, .slice I In Ic, .slice F Fn Fc, .int .i64 pg, .int .i64 mo, .slice G Gn Gc, .slice E En Ec, .slice D Dn Dc] 29)).alloc (.cells #[.slice none 0 0, .slice none 0 0, .slice none 0 0, .int .i64 0, .int .i64 0, .slice none 0 0, .slice none 0 0, .slice none 0 0] 41)).alloc (.cells #[.slice none 0 0, .slice none 0 0, .slice none 0 0, .int .i64 0, .int .i64 0, .slice none 0 0, .slice none 0 0, .slice none 0 0] 41)) by
    repeat (first | exact Below.refl _ _ | refine bel_drewN ?_ _ | refine Below.setCell ?_ (by simp <;> omega) _ | refine Below.alloc ?_ (by simp <;> omega) _))
  generalize (((w.alloc (.cells #[.slice S Sn Sc, .slice I In Ic, .slice F Fn Fc, .int .i64 pg, .int .i64 mo, .slice G Gn Gc, .slice E En Ec, .slice D Dn Dc] 29)).alloc (.cells #[.slice none 0 0, .slice none 0 0, .slice none 0 0, .int .i64 0, .int .i64 0, .slice none 0 0, .slice none 0 0, .slice none 0 0] 41)).alloc (.cells #[.slice none 0 0, .slice none 0 0, .slice none 0 0, .int .i64 0, .int .i64 0, .slice none 0 0, .slice none 0 0, .slice none 0 0] 41)) = W0 at HK HL HN HB ⊢
  have HZ := hide (show w.heap.size + 3 ≤ W0.heap.size by have := HN.out.lt; omega)
  refine (toSigS_c S Sn Sc sigs _ (HR.out.bel HB.out).S (by have := HX.out.S; simp only [] at this; omega)).mono ?_
  rintro e w1 ⟨S', Sc', rfl, ho, hb⟩
  have OS := hide (show Ow w1 (w.heap.size + 3) 77 2 S' Sn Sc' (fl sigC sigs) from Ow.base_le ho HZ.out)
  replace HK := hide (HK.out.bel hb)
  replace HL := hide (HL.out.bel hb)
  replace HN := hide (HN.out.bel hb)
  replace HZ := hide (Nat.le_trans HZ.out hb.size)
  replace HB := hide (bel_step HB.out hb HB.out.size)
  clear ho hb
  have n0 : w1.cell? ⟨w.heap.size + 1 + 1, 0, none⟩ = some (.slice none 0 0) := HN.out.cell 0
  have nf : ∀ j, w1.frozen? ⟨w.heap.size + 1 + 1, j, none⟩ = false := fun j => HN.out.frozen j
  have p1 : w1.cell? ⟨w.heap.size, 1, none⟩ = some (.slice I In Ic) := HK.out.cell 1
  go_wp2_with fail
  replace HK := hide (HK.out.other (b' := w.heap.size + 1 + 1) (j := 0) (v := .slice S' Sn Sc') (by omega))
  replace HL := hide (HL.out.other (b' := w.heap.size + 1 + 1) (j := 0) (v := .slice S' Sn Sc') (by omega))
  replace HN := hide (show Blk _ (w.heap.size + 1 + 1) #[.slice S' Sn Sc', .slice none 0 0, .slice none 0 0, .int .i64 0, .int .i64 0, .slice none 0 0, .slice none 0 0, .slice none 0 0] 41 from HN.out.set 0 (.slice S' Sn Sc'))
  replace HB := hide (Below.setCell (p := ⟨w.heap.size + 1 + 1, 0, none⟩) HB.out (by simp <;> omega) (.slice S' Sn Sc'))
  replace OS := hide (own_set (b := w.heap.size + 1 + 1) (o := 0) (u := .slice S' Sn Sc') OS.out (by omega))
  have hz : w.heap.size + 3 ≤ (w1.setCell ⟨w.heap.size + 1 + 1, 0, none⟩ (.slice S' Sn Sc')).heap.size := by simpa using HZ.out
  replace HZ := hide hz
  clear hz nf n0 p1
  generalize (w1.setCell ⟨w.heap.size + 1 + 1, 0, none⟩ (.slice S' Sn Sc')) = V1 at HK HL HN HB HZ OS  ⊢
  refine (toImportS_c I In Ic imps _ (HR.out.bel HB.out).I (by have := HX.out.I; simp only [] at this; omega)).mono ?_
  rintro e w2 ⟨I', Ic', rfl, ho, hb⟩
  replace OS := hide (OS.out.below hb (Nat.le_refl _))
  have OI := hide (show Ow w2 (w.heap.size + 3) 79 3 I' In Ic' (fl impC imps) from Ow.base_le ho HZ.out)
  replace HK := hide (HK.out.bel hb)
  replace HL := hide (HL.out.bel hb)
  replace HN := hide (HN.out.bel hb)
  replace HZ := hide (Nat.le_trans HZ.out hb.size)
  replace HB := hide (bel_step HB.out hb HB.out.size)
  clear ho hb
  have n1 : w2.cell? ⟨w.heap.size + 1 + 1, 1, none⟩ = some (.slice none 0 0) := HN.out.cell 1
  have nf : ∀ j, w2.frozen? ⟨w.heap.size + 1 + 1, j, none⟩ = false := fun j => HN.out.frozen j
  have p2 : w2.cell? ⟨w.heap.size, 2, none⟩ = some (.slice F Fn Fc) := HK.out.cell 2
  go_wp2_with fail
  replace HK := hide (HK.out.other (b' := w.heap.size + 1 + 1) (j := 1) (v := .slice I' In Ic') (by omega))
  replace HL := hide (HL.out.other (b' := w.heap.size + 1 + 1) (j := 1) (v := .slice I' In Ic') (by omega))
  replace HN := hide (show Blk _ (w.heap.size + 1 + 1) #[.slice S' Sn Sc', .slice I' In Ic', .slice none 0 0, .int .i64 0, .int .i64 0, .slice none 0 0, .slice none 0 0, .slice none 0 0] 41 from HN.out.set 1 (.slice I' In Ic'))
  replace HB := hide (Below.setCell (p := ⟨w.heap.size + 1 + 1, 1, none⟩) HB.out (by simp <;> omega) (.slice I' In Ic'))
  replace OS := hide (own_set (b := w.heap.size + 1 + 1) (o := 1) (u := .slice I' In Ic') OS.out (by omega))
  replace OI := hide (own_set (b := w.heap.size + 1 + 1) (o := 1) (u := .slice I' In Ic') OI.out (by omega))
  have hz : w.heap.size + 3 ≤ (w2.setCell ⟨w.heap.size + 1 + 1, 1, none⟩ (.slice I' In Ic')).heap.size := by simpa using HZ.out
  replace HZ := hide hz
  clear hz nf n1 p2
  generalize (w2.setCell ⟨w.heap.size + 1 + 1, 1, none⟩ (.slice I' In Ic')) = V2 at HK HL HN HB HZ OS OI  ⊢
  refine (toFuncS_c F Fn Fc funs _ (HR.out.bel HB.out).F (HFd.out _ HB.out) (by have := HX.out.F; simp only [] at this; omega)).mono ?_
  rintro e w3 ⟨F', Fc', funs', rfl, hm, ho, hi, hlt, hb⟩
  replace OS := hide (OS.out.below hb (Nat.le_refl _))
  replace OI := hide (OI.out.below hb (Nat.le_refl _))
  have OF := hide (show Ow w3 (w.heap.size + 3) 84 3 F' Fn Fc' (fl funC funs') from Ow.base_le ho HZ.out)
  have MF := hide hm
  obtain ⟨qF, hqF⟩ : ∃ q, V2.heap.size + 1 = q := ⟨_, rfl⟩
  rw [hqF] at hi hlt
  have JF := hide hi
  have TF := hide (show w.heap.size + 3 ≤ qF ∧ ∀ g, blk F' = some g → g < qF from ⟨by have := HZ.out; omega, hlt⟩)
  clear hqF hi hlt hm
  replace HK := hide (HK.out.bel hb)
  replace HL := hide (HL.out.bel hb)
  replace HN := hide (HN.out.bel hb)
  replace HZ := hide (Nat.le_trans HZ.out hb.size)
  replace HB := hide (bel_step HB.out hb HB.out.size)
  clear ho hb
  have n2 : w3.cell? ⟨w.heap.size + 1 + 1, 2, none⟩ = some (.slice none 0 0) := HN.out.cell 2
  have n3 : w3.cell? ⟨w.heap.size + 1 + 1, 3, none⟩ = some (.int .i64 0) := HN.out.cell 3
  have n4 : w3.cell? ⟨w.heap.size + 1 + 1, 4, none⟩ = some (.int .i64 0) := HN.out.cell 4
  have nf : ∀ j, w3.frozen? ⟨w.heap.size + 1 + 1, j, none⟩ = false := fun j => HN.out.frozen j
  have p3 : w3.cell? ⟨w.heap.size, 3, none⟩ = some (.int .i64 pg) := HK.out.cell 3
  have p4 : w3.cell? ⟨w.heap.size, 4, none⟩ = some (.int .i64 mo) := HK.out.cell 4
  have p5 : w3.cell? ⟨w.heap.size, 5, none⟩ = some (.slice G Gn Gc) := HK.out.cell 5
  go_wp2_with fail
  replace HK := hide (HK.out.other (b' := w.heap.size + 1 + 1) (j := 2) (v := .slice F' Fn Fc') (by omega))
  replace HL := hide (HL.out.other (b' := w.heap.size + 1 + 1) (j := 2) (v := .slice F' Fn Fc') (by omega))
  replace HN := hide (show Blk _ (w.heap.size + 1 + 1) #[.slice S' Sn Sc', .slice I' In Ic', .slice F' Fn Fc', .int .i64 0, .int .i64 0, .slice none 0 0, .slice none 0 0, .slice none 0 0] 41 from HN.out.set 2 (.slice F' Fn Fc'))
  replace HB := hide (Below.setCell (p := ⟨w.heap.size + 1 + 1, 2, none⟩) HB.out (by simp <;> omega) (.slice F' Fn Fc'))
  replace OS := hide (own_set (b := w.heap.size + 1 + 1) (o := 2) (u := .slice F' Fn Fc') OS.out (by omega))
  replace OI := hide (own_set (b := w.heap.size + 1 + 1) (o := 2) (u := .slice F' Fn Fc') OI.out (by omega))
  replace OF := hide (own_set (b := w.heap.size + 1 + 1) (o := 2) (u := .slice F' Fn Fc') OF.out (by omega))
  replace JF := hide (JF.out.set (b := w.heap.size + 1 + 1) (o := 2) (u := .slice F' Fn Fc') (by have := TF.out.1; omega))
  replace HK := hide (HK.out.other (b' := w.heap.size + 1 + 1) (j := 3) (v := .int .i64 pg) (by omega))
  replace HL := hide (HL.out.other (b' := w.heap.size + 1 + 1) (j := 3) (v := .int .i64 pg) (by omega))
  replace HN := hide (show Blk _ (w.heap.size + 1 + 1) #[.slice S' Sn Sc', .slice I' In Ic', .slice F' Fn Fc', .int .i64 pg, .int .i64 0, .slice none 0 0, .slice none 0 0, .slice none 0 0] 41 from HN.out.set 3 (.int .i64 pg))
  replace HB := hide (Below.setCell (p := ⟨w.heap.size + 1 + 1, 3, none⟩) HB.out (by simp <;> omega) (.int .i64 pg))
  replace OS := hide (own_set (b := w.heap.size + 1 + 1) (o := 3) (u := .int .i64 pg) OS.out (by omega))
  replace OI := hide (own_set (b := w.heap.size + 1 + 1) (o := 3) (u := .int .i64 pg) OI.out (by omega))
  replace OF := hide (own_set (b := w.heap.size + 1 + 1) (o := 3) (u := .int .i64 pg) OF.out (by omega))
  replace JF := hide (JF.out.set (b := w.heap.size + 1 + 1) (o := 3) (u := .int .i64 pg) (by have := TF.out.1; omega))
  replace HK := hide (HK.out.other (b' := w.heap.size + 1 + 1) (j := 4) (v := .int .i64 mo) (by omega))
  replace HL := hide (HL.out.other (b' := w.heap.size + 1 + 1) (j := 4) (v := .int .i64 mo) (by omega))
  replace HN := hide (show Blk _ (w.heap.size + 1 + 1) #[.slice S' Sn Sc', .slice I' In Ic', .slice F' Fn Fc', .int .i64 pg, .int .i64 mo, .slice none 0 0, .slice none 0 0, .slice none 0 0] 41 from HN.out.set 4 (.int .i64 mo))
  replace HB := hide (Below.setCell (p := ⟨w.heap.size + 1 + 1, 4, none⟩) HB.out (by simp <;> omega) (.int .i64 mo))
  replace OS := hide (own_set (b := w.heap.size + 1 + 1) (o := 4) (u := .int .i64 mo) OS.out (by omega))
  replace OI := hide (own_set (b := w.heap.size + 1 + 1) (o := 4) (u := .int .i64 mo) OI.out (by omega))
  replace OF := hide (own_set (b := w.heap.size + 1 + 1) (o := 4) (u := .int .i64 mo) OF.out (by omega))
  replace JF := hide (JF.out.set (b := w.heap.size + 1 + 1) (o := 4) (u := .int .i64 mo) (by have := TF.out.1; omega))
  have hz : w.heap.size + 3 ≤ (((w3.setCell ⟨w.heap.size + 1 + 1, 2, none⟩ (.slice F' Fn Fc')).setCell ⟨w.heap.size + 1 + 1, 3, none⟩ (.int .i64 pg)).setCell ⟨w.heap.size + 1 + 1, 4, none⟩ (.int .i64 mo)).heap.size := by simpa using HZ.out
  replace HZ := hide hz
  clear hz nf n2 n3 n4 p3 p4 p5
  generalize (((w3.setCell ⟨w.heap.size + 1 + 1, 2, none⟩ (.slice F' Fn Fc')).setCell ⟨w.heap.size + 1 + 1, 3, none⟩ (.int .i64 pg)).setCell ⟨w.heap.size + 1 + 1, 4, none⟩ (.int .i64 mo)) = V3 at HK HL HN HB HZ OS OI OF JF ⊢
  refine (toGlobalS_c G Gn Gc glos _ (HR.out.bel HB.out).G (by have := HX.out.G; simp only [] at this; omega)).mono ?_
  rintro e w4 ⟨G', Gc', rfl, ho, hb⟩
  replace OS := hide (OS.out.below hb (Nat.le_refl _))
  replace OI := hide (OI.out.below hb (Nat.le_refl _))
  replace OF := hide (OF.out.below hb (Nat.le_refl _))
  replace JF := hide (JF.out.below hb)
  have OG := hide (show Ow w4 (w.heap.size + 3) 87 2 G' Gn Gc' (fl gloC glos) from Ow.base_le ho HZ.out)
  replace HK := hide (HK.out.bel hb)
  replace HL := hide (HL.out.bel hb)
  replace HN := hide (HN.out.bel hb)
  replace HZ := hide (Nat.le_trans HZ.out hb.size)
  replace HB := hide (bel_step HB.out hb HB.out.size)
  clear ho hb
  have n5 : w4.cell? ⟨w.heap.size + 1 + 1, 5, none⟩ = some (.slice none 0 0) := HN.out.cell 5
  have nf : ∀ j, w4.frozen? ⟨w.heap.size + 1 + 1, j, none⟩ = false := fun j => HN.out.frozen j
  have p6 : w4.cell? ⟨w.heap.size, 6, none⟩ = some (.slice E En Ec) := HK.out.cell 6
  go_wp2_with fail
  replace HK := hide (HK.out.other (b' := w.heap.size + 1 + 1) (j := 5) (v := .slice G' Gn Gc') (by omega))
  replace HL := hide (HL.out.other (b' := w.heap.size + 1 + 1) (j := 5) (v := .slice G' Gn Gc') (by omega))
  replace HN := hide (show Blk _ (w.heap.size + 1 + 1) #[.slice S' Sn Sc', .slice I' In Ic', .slice F' Fn Fc', .int .i64 pg, .int .i64 mo, .slice G' Gn Gc', .slice none 0 0, .slice none 0 0] 41 from HN.out.set 5 (.slice G' Gn Gc'))
  replace HB := hide (Below.setCell (p := ⟨w.heap.size + 1 + 1, 5, none⟩) HB.out (by simp <;> omega) (.slice G' Gn Gc'))
  replace OS := hide (own_set (b := w.heap.size + 1 + 1) (o := 5) (u := .slice G' Gn Gc') OS.out (by omega))
  replace OI := hide (own_set (b := w.heap.size + 1 + 1) (o := 5) (u := .slice G' Gn Gc') OI.out (by omega))
  replace OF := hide (own_set (b := w.heap.size + 1 + 1) (o := 5) (u := .slice G' Gn Gc') OF.out (by omega))
  replace JF := hide (JF.out.set (b := w.heap.size + 1 + 1) (o := 5) (u := .slice G' Gn Gc') (by have := TF.out.1; omega))
  replace OG := hide (own_set (b := w.heap.size + 1 + 1) (o := 5) (u := .slice G' Gn Gc') OG.out (by omega))
  have hz : w.heap.size + 3 ≤ (w4.setCell ⟨w.heap.size + 1 + 1, 5, none⟩ (.slice G' Gn Gc')).heap.size := by simpa using HZ.out
  replace HZ := hide hz
  clear hz nf n5 p6
  generalize (w4.setCell ⟨w.heap.size + 1 + 1, 5, none⟩ (.slice G' Gn Gc')) = V4 at HK HL HN HB HZ OS OI OF OG JF ⊢
  refine (toExportS_c E En Ec exps _ (HR.out.bel HB.out).E (by have := HX.out.E; simp only [] at this; omega)).mono ?_
  rintro e w5 ⟨E', Ec', rfl, ho, hb⟩
  replace OS := hide (OS.out.below hb (Nat.le_refl _))
  replace OI := hide (OI.out.below hb (Nat.le_refl _))
  replace OF := hide (OF.out.below hb (Nat.le_refl _))
  replace JF := hide (JF.out.below hb)
  replace OG := hide (OG.out.below hb (Nat.le_refl _))
  have OE := hide (show Ow w5 (w.heap.size + 3) 89 3 E' En Ec' (fl expC exps) from Ow.base_le ho HZ.out)
  replace HK := hide (HK.out.bel hb)
  replace HL := hide (HL.out.bel hb)
  replace HN := hide (HN.out.bel hb)
  replace HZ := hide (Nat.le_trans HZ.out hb.size)
  replace HB := hide (bel_step HB.out hb HB.out.size)
  clear ho hb
  have n6 : w5.cell? ⟨w.heap.size + 1 + 1, 6, none⟩ = some (.slice none 0 0) := HN.out.cell 6
  have nf : ∀ j, w5.frozen? ⟨w.heap.size + 1 + 1, j, none⟩ = false := fun j => HN.out.frozen j
  have p7 : w5.cell? ⟨w.heap.size, 7, none⟩ = some (.slice D Dn Dc) := HK.out.cell 7
  go_wp2_with fail
  replace HK := hide (HK.out.other (b' := w.heap.size + 1 + 1) (j := 6) (v := .slice E' En Ec') (by omega))
  replace HL := hide (HL.out.other (b' := w.heap.size + 1 + 1) (j := 6) (v := .slice E' En Ec') (by omega))
  replace HN := hide (show Blk _ (w.heap.size + 1 + 1) #[.slice S' Sn Sc', .slice I' In Ic', .slice F' Fn Fc', .int .i64 pg, .int .i64 mo, .slice G' Gn Gc', .slice E' En Ec', .slice none 0 0] 41 from HN.out.set 6 (.slice E' En Ec'))
  replace HB := hide (Below.setCell (p := ⟨w.heap.size + 1 + 1, 6, none⟩) HB.out (by simp <;> omega) (.slice E' En Ec'))
  replace OS := hide (own_set (b := w.heap.size + 1 + 1) (o := 6) (u := .slice E' En Ec') OS.out (by omega))
  replace OI := hide (own_set (b := w.heap.size + 1 + 1) (o := 6) (u := .slice E' En Ec') OI.out (by omega))
  replace OF := hide (own_set (b := w.heap.size + 1 + 1) (o := 6) (u := .slice E' En Ec') OF.out (by omega))
  replace JF := hide (JF.out.set (b := w.heap.size + 1 + 1) (o := 6) (u := .slice E' En Ec') (by have := TF.out.1; omega))
  replace OG := hide (own_set (b := w.heap.size + 1 + 1) (o := 6) (u := .slice E' En Ec') OG.out (by omega))
  replace OE := hide (own_set (b := w.heap.size + 1 + 1) (o := 6) (u := .slice E' En Ec') OE.out (by omega))
  have hz : w.heap.size + 3 ≤ (w5.setCell ⟨w.heap.size + 1 + 1, 6, none⟩ (.slice E' En Ec')).heap.size := by simpa using HZ.out
  replace HZ := hide hz
  clear hz nf n6 p7
  generalize (w5.setCell ⟨w.heap.size + 1 + 1, 6, none⟩ (.slice E' En Ec')) = V5 at HK HL HN HB HZ OS OI OF OG OE JF ⊢
  refine (toDataS_c D Dn Dc dats _ (HR.out.bel HB.out).D (HDd.out _ HB.out) (by have := HX.out.D; simp only [] at this; omega)).mono ?_
  rintro e w6 ⟨D', Dc', dats', rfl, hm, ho, hi, hlt, hb⟩
  replace OS := hide (OS.out.below hb (Nat.le_refl _))
  replace OI := hide (OI.out.below hb (Nat.le_refl _))
  replace OF := hide (OF.out.below hb (Nat.le_refl _))
  replace JF := hide (JF.out.below hb)
  replace OG := hide (OG.out.below hb (Nat.le_refl _))
  replace OE := hide (OE.out.below hb (Nat.le_refl _))
  have OD := hide (show Ow w6 (w.heap.size + 3) 93 2 D' Dn Dc' (fl datC dats') from Ow.base_le ho HZ.out)
  have MD := hide hm
  obtain ⟨qD, hqD⟩ : ∃ q, V5.heap.size + 1 = q := ⟨_, rfl⟩
  rw [hqD] at hi hlt
  have JD := hide hi
  have TD := hide (show w.heap.size + 3 ≤ qD ∧ ∀ g, blk D' = some g → g < qD from ⟨by have := HZ.out; omega, hlt⟩)
  clear hqD hi hlt hm
  replace HK := hide (HK.out.bel hb)
  replace HL := hide (HL.out.bel hb)
  replace HN := hide (HN.out.bel hb)
  replace HZ := hide (Nat.le_trans HZ.out hb.size)
  replace HB := hide (bel_step HB.out hb HB.out.size)
  clear ho hb
  have n7 : w6.cell? ⟨w.heap.size + 1 + 1, 7, none⟩ = some (.slice none 0 0) := HN.out.cell 7
  have nf : ∀ j, w6.frozen? ⟨w.heap.size + 1 + 1, j, none⟩ = false := fun j => HN.out.frozen j
  have n0 : w6.cell? ⟨w.heap.size + 1 + 1, 0, none⟩ = some (.slice S' Sn Sc') := HN.out.cell 0
  have n1 : w6.cell? ⟨w.heap.size + 1 + 1, 1, none⟩ = some (.slice I' In Ic') := HN.out.cell 1
  have n2 : w6.cell? ⟨w.heap.size + 1 + 1, 2, none⟩ = some (.slice F' Fn Fc') := HN.out.cell 2
  have n3 : w6.cell? ⟨w.heap.size + 1 + 1, 3, none⟩ = some (.int .i64 pg) := HN.out.cell 3
  have n4 : w6.cell? ⟨w.heap.size + 1 + 1, 4, none⟩ = some (.int .i64 mo) := HN.out.cell 4
  have n5 : w6.cell? ⟨w.heap.size + 1 + 1, 5, none⟩ = some (.slice G' Gn Gc') := HN.out.cell 5
  have n6 : w6.cell? ⟨w.heap.size + 1 + 1, 6, none⟩ = some (.slice E' En Ec') := HN.out.cell 6
  have l0 : w6.cell? ⟨w.heap.size + 1, 0, none⟩ = some (.slice none 0 0) := HL.out.cell 0
  have l1 : w6.cell? ⟨w.heap.size + 1, 1, none⟩ = some (.slice none 0 0) := HL.out.cell 1
  have l2 : w6.cell? ⟨w.heap.size + 1, 2, none⟩ = some (.slice none 0 0) := HL.out.cell 2
  have l3 : w6.cell? ⟨w.heap.size + 1, 3, none⟩ = some (.int .i64 0) := HL.out.cell 3
  have l4 : w6.cell? ⟨w.heap.size + 1, 4, none⟩ = some (.int .i64 0) := HL.out.cell 4
  have l5 : w6.cell? ⟨w.heap.size + 1, 5, none⟩ = some (.slice none 0 0) := HL.out.cell 5
  have l6 : w6.cell? ⟨w.heap.size + 1, 6, none⟩ = some (.slice none 0 0) := HL.out.cell 6
  have l7 : w6.cell? ⟨w.heap.size + 1, 7, none⟩ = some (.slice none 0 0) := HL.out.cell 7
  have lf : ∀ j, w6.frozen? ⟨w.heap.size + 1, j, none⟩ = false := fun j => HL.out.frozen j
  go_wp2_with fail
  replace HL := hide (HL.out.other (b' := w.heap.size + 1 + 1) (j := 7) (v := .slice D' Dn Dc') (by omega))
  replace HB := hide (Below.setCell (p := ⟨w.heap.size + 1 + 1, 7, none⟩) HB.out (by simp <;> omega) (.slice D' Dn Dc'))
  replace OS := hide (own_set (b := w.heap.size + 1 + 1) (o := 7) (u := .slice D' Dn Dc') OS.out (by omega))
  replace OI := hide (own_set (b := w.heap.size + 1 + 1) (o := 7) (u := .slice D' Dn Dc') OI.out (by omega))
  replace OF := hide (own_set (b := w.heap.size + 1 + 1) (o := 7) (u := .slice D' Dn Dc') OF.out (by omega))
  replace JF := hide (JF.out.set (b := w.heap.size + 1 + 1) (o := 7) (u := .slice D' Dn Dc') (by have := TF.out.1; omega))
  replace OG := hide (own_set (b := w.heap.size + 1 + 1) (o := 7) (u := .slice D' Dn Dc') OG.out (by omega))
  replace OE := hide (own_set (b := w.heap.size + 1 + 1) (o := 7) (u := .slice D' Dn Dc') OE.out (by omega))
  replace OD := hide (own_set (b := w.heap.size + 1 + 1) (o := 7) (u := .slice D' Dn Dc') OD.out (by omega))
  replace JD := hide (JD.out.set (b := w.heap.size + 1 + 1) (o := 7) (u := .slice D' Dn Dc') (by have := TD.out.1; omega))
  replace HL := hide (show Blk _ (w.heap.size + 1) #[.slice S' Sn Sc', .slice none 0 0, .slice none 0 0, .int .i64 0, .int .i64 0, .slice none 0 0, .slice none 0 0, .slice none 0 0] 41 from HL.out.set 0 (.slice S' Sn Sc'))
  replace HB := hide (Below.setCell (p := ⟨w.heap.size + 1, 0, none⟩) HB.out (by simp <;> omega) (.slice S' Sn Sc'))
  replace OS := hide (own_set (b := w.heap.size + 1) (o := 0) (u := .slice S' Sn Sc') OS.out (by omega))
  replace OI := hide (own_set (b := w.heap.size + 1) (o := 0) (u := .slice S' Sn Sc') OI.out (by omega))
  replace OF := hide (own_set (b := w.heap.size + 1) (o := 0) (u := .slice S' Sn Sc') OF.out (by omega))
  replace JF := hide (JF.out.set (b := w.heap.size + 1) (o := 0) (u := .slice S' Sn Sc') (by have := TF.out.1; omega))
  replace OG := hide (own_set (b := w.heap.size + 1) (o := 0) (u := .slice S' Sn Sc') OG.out (by omega))
  replace OE := hide (own_set (b := w.heap.size + 1) (o := 0) (u := .slice S' Sn Sc') OE.out (by omega))
  replace OD := hide (own_set (b := w.heap.size + 1) (o := 0) (u := .slice S' Sn Sc') OD.out (by omega))
  replace JD := hide (JD.out.set (b := w.heap.size + 1) (o := 0) (u := .slice S' Sn Sc') (by have := TD.out.1; omega))
  replace HL := hide (show Blk _ (w.heap.size + 1) #[.slice S' Sn Sc', .slice I' In Ic', .slice none 0 0, .int .i64 0, .int .i64 0, .slice none 0 0, .slice none 0 0, .slice none 0 0] 41 from HL.out.set 1 (.slice I' In Ic'))
  replace HB := hide (Below.setCell (p := ⟨w.heap.size + 1, 1, none⟩) HB.out (by simp <;> omega) (.slice I' In Ic'))
  replace OS := hide (own_set (b := w.heap.size + 1) (o := 1) (u := .slice I' In Ic') OS.out (by omega))
  replace OI := hide (own_set (b := w.heap.size + 1) (o := 1) (u := .slice I' In Ic') OI.out (by omega))
  replace OF := hide (own_set (b := w.heap.size + 1) (o := 1) (u := .slice I' In Ic') OF.out (by omega))
  replace JF := hide (JF.out.set (b := w.heap.size + 1) (o := 1) (u := .slice I' In Ic') (by have := TF.out.1; omega))
  replace OG := hide (own_set (b := w.heap.size + 1) (o := 1) (u := .slice I' In Ic') OG.out (by omega))
  replace OE := hide (own_set (b := w.heap.size + 1) (o := 1) (u := .slice I' In Ic') OE.out (by omega))
  replace OD := hide (own_set (b := w.heap.size + 1) (o := 1) (u := .slice I' In Ic') OD.out (by omega))
  replace JD := hide (JD.out.set (b := w.heap.size + 1) (o := 1) (u := .slice I' In Ic') (by have := TD.out.1; omega))
  replace HL := hide (show Blk _ (w.heap.size + 1) #[.slice S' Sn Sc', .slice I' In Ic', .slice F' Fn Fc', .int .i64 0, .int .i64 0, .slice none 0 0, .slice none 0 0, .slice none 0 0] 41 from HL.out.set 2 (.slice F' Fn Fc'))
  replace HB := hide (Below.setCell (p := ⟨w.heap.size + 1, 2, none⟩) HB.out (by simp <;> omega) (.slice F' Fn Fc'))
  replace OS := hide (own_set (b := w.heap.size + 1) (o := 2) (u := .slice F' Fn Fc') OS.out (by omega))
  replace OI := hide (own_set (b := w.heap.size + 1) (o := 2) (u := .slice F' Fn Fc') OI.out (by omega))
  replace OF := hide (own_set (b := w.heap.size + 1) (o := 2) (u := .slice F' Fn Fc') OF.out (by omega))
  replace JF := hide (JF.out.set (b := w.heap.size + 1) (o := 2) (u := .slice F' Fn Fc') (by have := TF.out.1; omega))
  replace OG := hide (own_set (b := w.heap.size + 1) (o := 2) (u := .slice F' Fn Fc') OG.out (by omega))
  replace OE := hide (own_set (b := w.heap.size + 1) (o := 2) (u := .slice F' Fn Fc') OE.out (by omega))
  replace OD := hide (own_set (b := w.heap.size + 1) (o := 2) (u := .slice F' Fn Fc') OD.out (by omega))
  replace JD := hide (JD.out.set (b := w.heap.size + 1) (o := 2) (u := .slice F' Fn Fc') (by have := TD.out.1; omega))
  replace HL := hide (show Blk _ (w.heap.size + 1) #[.slice S' Sn Sc', .slice I' In Ic', .slice F' Fn Fc', .int .i64 pg, .int .i64 0, .slice none 0 0, .slice none 0 0, .slice none 0 0] 41 from HL.out.set 3 (.int .i64 pg))
  replace HB := hide (Below.setCell (p := ⟨w.heap.size + 1, 3, none⟩) HB.out (by simp <;> omega) (.int .i64 pg))
  replace OS := hide (own_set (b := w.heap.size + 1) (o := 3) (u := .int .i64 pg) OS.out (by omega))
  replace OI := hide (own_set (b := w.heap.size + 1) (o := 3) (u := .int .i64 pg) OI.out (by omega))
  replace OF := hide (own_set (b := w.heap.size + 1) (o := 3) (u := .int .i64 pg) OF.out (by omega))
  replace JF := hide (JF.out.set (b := w.heap.size + 1) (o := 3) (u := .int .i64 pg) (by have := TF.out.1; omega))
  replace OG := hide (own_set (b := w.heap.size + 1) (o := 3) (u := .int .i64 pg) OG.out (by omega))
  replace OE := hide (own_set (b := w.heap.size + 1) (o := 3) (u := .int .i64 pg) OE.out (by omega))
  replace OD := hide (own_set (b := w.heap.size + 1) (o := 3) (u := .int .i64 pg) OD.out (by omega))
  replace JD := hide (JD.out.set (b := w.heap.size + 1) (o := 3) (u := .int .i64 pg) (by have := TD.out.1; omega))
  replace HL := hide (show Blk _ (w.heap.size + 1) #[.slice S' Sn Sc', .slice I' In Ic', .slice F' Fn Fc', .int .i64 pg, .int .i64 mo, .slice none 0 0, .slice none 0 0, .slice none 0 0] 41 from HL.out.set 4 (.int .i64 mo))
  replace HB := hide (Below.setCell (p := ⟨w.heap.size + 1, 4, none⟩) HB.out (by simp <;> omega) (.int .i64 mo))
  replace OS := hide (own_set (b := w.heap.size + 1) (o := 4) (u := .int .i64 mo) OS.out (by omega))
  replace OI := hide (own_set (b := w.heap.size + 1) (o := 4) (u := .int .i64 mo) OI.out (by omega))
  replace OF := hide (own_set (b := w.heap.size + 1) (o := 4) (u := .int .i64 mo) OF.out (by omega))
  replace JF := hide (JF.out.set (b := w.heap.size + 1) (o := 4) (u := .int .i64 mo) (by have := TF.out.1; omega))
  replace OG := hide (own_set (b := w.heap.size + 1) (o := 4) (u := .int .i64 mo) OG.out (by omega))
  replace OE := hide (own_set (b := w.heap.size + 1) (o := 4) (u := .int .i64 mo) OE.out (by omega))
  replace OD := hide (own_set (b := w.heap.size + 1) (o := 4) (u := .int .i64 mo) OD.out (by omega))
  replace JD := hide (JD.out.set (b := w.heap.size + 1) (o := 4) (u := .int .i64 mo) (by have := TD.out.1; omega))
  replace HL := hide (show Blk _ (w.heap.size + 1) #[.slice S' Sn Sc', .slice I' In Ic', .slice F' Fn Fc', .int .i64 pg, .int .i64 mo, .slice G' Gn Gc', .slice none 0 0, .slice none 0 0] 41 from HL.out.set 5 (.slice G' Gn Gc'))
  replace HB := hide (Below.setCell (p := ⟨w.heap.size + 1, 5, none⟩) HB.out (by simp <;> omega) (.slice G' Gn Gc'))
  replace OS := hide (own_set (b := w.heap.size + 1) (o := 5) (u := .slice G' Gn Gc') OS.out (by omega))
  replace OI := hide (own_set (b := w.heap.size + 1) (o := 5) (u := .slice G' Gn Gc') OI.out (by omega))
  replace OF := hide (own_set (b := w.heap.size + 1) (o := 5) (u := .slice G' Gn Gc') OF.out (by omega))
  replace JF := hide (JF.out.set (b := w.heap.size + 1) (o := 5) (u := .slice G' Gn Gc') (by have := TF.out.1; omega))
  replace OG := hide (own_set (b := w.heap.size + 1) (o := 5) (u := .slice G' Gn Gc') OG.out (by omega))
  replace OE := hide (own_set (b := w.heap.size + 1) (o := 5) (u := .slice G' Gn Gc') OE.out (by omega))
  replace OD := hide (own_set (b := w.heap.size + 1) (o := 5) (u := .slice G' Gn Gc') OD.out (by omega))
  replace JD := hide (JD.out.set (b := w.heap.size + 1) (o := 5) (u := .slice G' Gn Gc') (by have := TD.out.1; omega))
  replace HL := hide (show Blk _ (w.heap.size + 1) #[.slice S' Sn Sc', .slice I' In Ic', .slice F' Fn Fc', .int .i64 pg, .int .i64 mo, .slice G' Gn Gc', .slice E' En Ec', .slice none 0 0] 41 from HL.out.set 6 (.slice E' En Ec'))
  replace HB := hide (Below.setCell (p := ⟨w.heap.size + 1, 6, none⟩) HB.out (by simp <;> omega) (.slice E' En Ec'))
  replace OS := hide (own_set (b := w.heap.size + 1) (o := 6) (u := .slice E' En Ec') OS.out (by omega))
  replace OI := hide (own_set (b := w.heap.size + 1) (o := 6) (u := .slice E' En Ec') OI.out (by omega))
  replace OF := hide (own_set (b := w.heap.size + 1) (o := 6) (u := .slice E' En Ec') OF.out (by omega))
  replace JF := hide (JF.out.set (b := w.heap.size + 1) (o := 6) (u := .slice E' En Ec') (by have := TF.out.1; omega))
  replace OG := hide (own_set (b := w.heap.size + 1) (o := 6) (u := .slice E' En Ec') OG.out (by omega))
  replace OE := hide (own_set (b := w.heap.size + 1) (o := 6) (u := .slice E' En Ec') OE.out (by omega))
  replace OD := hide (own_set (b := w.heap.size + 1) (o := 6) (u := .slice E' En Ec') OD.out (by omega))
  replace JD := hide (JD.out.set (b := w.heap.size + 1) (o := 6) (u := .slice E' En Ec') (by have := TD.out.1; omega))
  replace HL := hide (show Blk _ (w.heap.size + 1) #[.slice S' Sn Sc', .slice I' In Ic', .slice F' Fn Fc', .int .i64 pg, .int .i64 mo, .slice G' Gn Gc', .slice E' En Ec', .slice D' Dn Dc'] 41 from HL.out.set 7 (.slice D' Dn Dc'))
  replace HB := hide (Below.setCell (p := ⟨w.heap.size + 1, 7, none⟩) HB.out (by simp <;> omega) (.slice D' Dn Dc'))
  replace OS := hide (own_set (b := w.heap.size + 1) (o := 7) (u := .slice D' Dn Dc') OS.out (by omega))
  replace OI := hide (own_set (b := w.heap.size + 1) (o := 7) (u := .slice D' Dn Dc') OI.out (by omega))
  replace OF := hide (own_set (b := w.heap.size + 1) (o := 7) (u := .slice D' Dn Dc') OF.out (by omega))
  replace JF := hide (JF.out.set (b := w.heap.size + 1) (o := 7) (u := .slice D' Dn Dc') (by have := TF.out.1; omega))
  replace OG := hide (own_set (b := w.heap.size + 1) (o := 7) (u := .slice D' Dn Dc') OG.out (by omega))
  replace OE := hide (own_set (b := w.heap.size + 1) (o := 7) (u := .slice D' Dn Dc') OE.out (by omega))
  replace OD := hide (own_set (b := w.heap.size + 1) (o := 7) (u := .slice D' Dn Dc') OD.out (by omega))
  replace JD := hide (JD.out.set (b := w.heap.size + 1) (o := 7) (u := .slice D' Dn Dc') (by have := TD.out.1; omega))
  clear nf lf n0 n1 n2 n3 n4 n5 n6 n7 l0 l1 l2 l3 l4 l5 l6 l7
  generalize (((((((((w6.setCell ⟨w.heap.size + 1 + 1, 7, none⟩ (.slice D' Dn Dc')).setCell ⟨w.heap.size + 1, 0, none⟩ (.slice S' Sn Sc')).setCell ⟨w.heap.size + 1, 1, none⟩ (.slice I' In Ic')).setCell ⟨w.heap.size + 1, 2, none⟩ (.slice F' Fn Fc')).setCell ⟨w.heap.size + 1, 3, none⟩ (.int .i64 pg)).setCell ⟨w.heap.size + 1, 4, none⟩ (.int .i64 mo)).setCell ⟨w.heap.size + 1, 5, none⟩ (.slice G' Gn Gc')).setCell ⟨w.heap.size + 1, 6, none⟩ (.slice E' En Ec')).setCell ⟨w.heap.size + 1, 7, none⟩ (.slice D' Dn Dc')) = V6 at HL HB OS OI OF OG OE OD JF JD ⊢
  have l0 : V6.cell? ⟨w.heap.size + 1, 0, none⟩ = some (.slice S' Sn Sc') := HL.out.cell 0
  have l1 : V6.cell? ⟨w.heap.size + 1, 1, none⟩ = some (.slice I' In Ic') := HL.out.cell 1
  have l2 : V6.cell? ⟨w.heap.size + 1, 2, none⟩ = some (.slice F' Fn Fc') := HL.out.cell 2
  have l3 : V6.cell? ⟨w.heap.size + 1, 3, none⟩ = some (.int .i64 pg) := HL.out.cell 3
  have l4 : V6.cell? ⟨w.heap.size + 1, 4, none⟩ = some (.int .i64 mo) := HL.out.cell 4
  have l5 : V6.cell? ⟨w.heap.size + 1, 5, none⟩ = some (.slice G' Gn Gc') := HL.out.cell 5
  have l6 : V6.cell? ⟨w.heap.size + 1, 6, none⟩ = some (.slice E' En Ec') := HL.out.cell 6
  have l7 : V6.cell? ⟨w.heap.size + 1, 7, none⟩ = some (.slice D' Dn Dc') := HL.out.cell 7
  refine bodyPost_ret (v := .agg #[.slice S' Sn Sc', .slice I' In Ic', .slice F' Fn Fc', .int .i64 pg, .int .i64 mo, .slice G' Gn Gc', .slice E' En Ec', .slice D' Dn Dc']) (by simp [results, Tryz.results7, go_sem, l0, l1, l2, l3, l4, l5, l6, l7]) rfl ⟨⟨(S', Sn, Sc'), (I', In, Ic'), (F', Fn, Fc'), pg, mo, (G', Gn, Gc'), (E', En, Ec'), (D', Dn, Dc'), sigs, imps, funs', glos, exps, dats'⟩, rfl, ?_, ?_, ?_, ?_⟩
  · simp only [MV.pl, MF.out, MD.out]
  · refine ⟨?_, ?_, ?_, ⟨qF, by have := TF.out.1; omega, TF.out.2, ?_⟩, ?_, ?_, ?_, ⟨qD, by have := TD.out.1; omega, TD.out.2, ?_⟩⟩
    · refine Ow.base_le (base := w.heap.size + 3) ?_ (by omega)
      exact OS.out
    · refine Ow.base_le (base := w.heap.size + 3) ?_ (by omega)
      exact OI.out
    · refine Ow.base_le (base := w.heap.size + 3) ?_ (by omega)
      exact OF.out
    · exact JF.out
    · refine Ow.base_le (base := w.heap.size + 3) ?_ (by omega)
      exact OG.out
    · refine Ow.base_le (base := w.heap.size + 3) ?_ (by omega)
      exact OE.out
    · refine Ow.base_le (base := w.heap.size + 3) ?_ (by omega)
      exact OD.out
    · exact JD.out
  · exact ⟨HX.out.S, HX.out.I, HX.out.IS, HX.out.F, fun x hx => by have := (JF.out.1 x hx).1; omega, HX.out.G, HX.out.E, HX.out.ES, HX.out.D, fun x hx => by have := (JD.out.1 x hx).1; omega⟩
  · exact HB.out
set_option maxRecDepth 100000 in
set_option maxHeartbeats 4000000 in
theorem eqModule_c (m m' : MV) (w : World) (hR : m.Reads w) (hR' : m'.Reads w) (hX : m.Long 1048576) (hX' : m'.Long 1048576) (hpl : m.pl = m'.pl) :
    Calls Tryz.prog 10 #[m.v, m'.v] w fun e w' => e = .returned (.bool true) ∧ Below w.heap.size w w' := by
  have q1 := rd_len sigL (by omega) hR.S
  have q2 := rd_len impL (by omega) hR.I
  have q3 := rd_len funL (by omega) hR.F
  have q4 := rd_len gloL (by omega) hR.G
  have q5 := rd_len expL (by omega) hR.E
  have q6 := rd_len datL (by omega) hR.D
  have r1 := rd_len sigL (by omega) hR'.S
  have r2 := rd_len impL (by omega) hR'.I
  have r3 := rd_len funL (by omega) hR'.F
  have r4 := rd_len gloL (by omega) hR'.G
  have r5 := rd_len expL (by omega) hR'.E
  have r6 := rd_len datL (by omega) hR'.D
  obtain ⟨⟨S, Sn, Sc⟩, ⟨I, In, Ic⟩, ⟨F, Fn, Fc⟩, pg, mo, ⟨G, Gn, Gc⟩, ⟨E, En, Ec⟩, ⟨D, Dn, Dc⟩, sigs, imps, funs, glos, exps, dats⟩ := m
  obtain ⟨⟨S', Sn', Sc'⟩, ⟨I', In', Ic'⟩, ⟨F', Fn', Fc'⟩, pg', mo', ⟨G', Gn', Gc'⟩, ⟨E', En', Ec'⟩, ⟨D', Dn', Dc'⟩, sigs', imps', funs', glos', exps', dats'⟩ := m'
  simp only [MV.pl, Md.mk.injEq] at hpl
  obtain ⟨rfl, rfl, hF, rfl, rfl, rfl, rfl, hD⟩ := hpl
  simp only [] at q1 q2 q3 q4 q5 q6 r1 r2 r3 r4 r5 r6
  obtain rfl : Sn = Sn' := by omega
  obtain rfl : In = In' := by omega
  obtain rfl : Gn = Gn' := by omega
  obtain rfl : En = En' := by omega
  obtain rfl : Fn = Fn' := by have h := congrArg List.length hF; simp only [List.length_map] at h; omega
  obtain rfl : Dn = Dn' := by have h := congrArg List.length hD; simp only [List.length_map] at h; omega
  have R1 := hide hR
  have R2 := hide hR'
  have HX := hide hX
  have HY := hide hX'
  have HF := hide hF
  have HD := hide hD
  have hpg : (pg == pg) = true := by simp
  have hmo : (mo == mo) = true := by simp
  clear hR hR' hX hX' hF hD q1 q2 q3 q4 q5 q6 r1 r2 r3 r4 r5 r6
  change Calls Tryz.prog 10 #[.agg #[.slice S Sn Sc, .slice I In Ic, .slice F Fn Fc, .int .i64 pg, .int .i64 mo, .slice G Gn Gc, .slice E En Ec, .slice D Dn Dc], .agg #[.slice S' Sn Sc', .slice I' In Ic', .slice F' Fn Fc', .int .i64 pg, .int .i64 mo, .slice G' Gn Gc', .slice E' En Ec', .slice D' Dn Dc']] w _
  go_enter Tryz.func10, Tryz.ntmps10
  go_wp2_with fail
  have HK := hide ((Blk.new w #[.slice S Sn Sc, .slice I In Ic, .slice F Fn Fc, .int .i64 pg, .int .i64 mo, .slice G Gn Gc, .slice E En Ec, .slice D Dn Dc] 41).alloc (.cells #[.slice S' Sn Sc', .slice I' In Ic', .slice F' Fn Fc', .int .i64 pg, .int .i64 mo, .slice G' Gn Gc', .slice E' En Ec', .slice D' Dn Dc'] 41))
  have HL := hide (show Blk ((w.alloc (.cells #[.slice S Sn Sc, .slice I In Ic, .slice F Fn Fc, .int .i64 pg, .int .i64 mo, .slice G Gn Gc, .slice E En Ec, .slice D Dn Dc] 41)).alloc (.cells #[.slice S' Sn Sc', .slice I' In Ic', .slice F' Fn Fc', .int .i64 pg, .int .i64 mo, .slice G' Gn Gc', .slice E' En Ec', .slice D' Dn Dc'] 41)) (w.heap.size + 1) #[.slice S' Sn Sc', .slice I' In Ic', .slice F' Fn Fc', .int .i64 pg, .int .i64 mo, .slice G' Gn Gc', .slice E' En Ec', .slice D' Dn Dc'] 41 by
    have h := Blk.new (w.alloc (.cells #[.slice S Sn Sc, .slice I In Ic, .slice F Fn Fc, .int .i64 pg, .int .i64 mo, .slice G Gn Gc, .slice E En Ec, .slice D Dn Dc] 41)) #[.slice S' Sn Sc', .slice I' In Ic', .slice F' Fn Fc', .int .i64 pg, .int .i64 mo, .slice G' Gn Gc', .slice E' En Ec', .slice D' Dn Dc'] 41
    simpa using h)
  have HB := hide (show Below w.heap.size w ((w.alloc (.cells #[.slice S Sn Sc, .slice I In Ic, .slice F Fn Fc, .int .i64 pg, .int .i64 mo, .slice G Gn Gc, .slice E En Ec, .slice D Dn Dc] 41)).alloc (.cells #[.slice S' Sn Sc', .slice I' In Ic', .slice F' Fn Fc', .int .i64 pg, .int .i64 mo, .slice G' Gn Gc', .slice E' En Ec', .slice D' Dn Dc'] 41)) by
    repeat (first | exact Below.refl _ _ | refine bel_drewN ?_ _ | refine Below.setCell ?_ (by simp <;> omega) _ | refine Below.alloc ?_ (by simp <;> omega) _))
  generalize ((w.alloc (.cells #[.slice S Sn Sc, .slice I In Ic, .slice F Fn Fc, .int .i64 pg, .int .i64 mo, .slice G Gn Gc, .slice E En Ec, .slice D Dn Dc] 41)).alloc (.cells #[.slice S' Sn Sc', .slice I' In Ic', .slice F' Fn Fc', .int .i64 pg, .int .i64 mo, .slice G' Gn Gc', .slice E' En Ec', .slice D' Dn Dc'] 41)) = W0 at HK HL HB ⊢
  refine (eqSigS_c S S' Sn Sc Sc' sigs _ (R1.out.bel HB.out).S (R2.out.bel HB.out).S (by have := HX.out.S; simp only [] at this; omega)).mono ?_
  rintro e w1 ⟨rfl, hb⟩
  replace HK := hide (HK.out.bel hb)
  replace HL := hide (HL.out.bel hb)
  replace HB := hide (bel_step HB.out hb HB.out.size)
  clear hb
  have p1 : w1.cell? ⟨w.heap.size, 1, none⟩ = some (.slice I In Ic) := HK.out.cell 1
  have q1 : w1.cell? ⟨w.heap.size + 1, 1, none⟩ = some (.slice I' In Ic') := HL.out.cell 1
  go_wp2_with fail
  refine (eqImportS_c I I' In Ic Ic' imps _ (R1.out.bel HB.out).I (R2.out.bel HB.out).I (by have := HX.out.I; simp only [] at this; omega)).mono ?_
  rintro e w2 ⟨rfl, hb⟩
  replace HK := hide (HK.out.bel hb)
  replace HL := hide (HL.out.bel hb)
  replace HB := hide (bel_step HB.out hb HB.out.size)
  clear hb p1 q1
  have p2 : w2.cell? ⟨w.heap.size, 2, none⟩ = some (.slice F Fn Fc) := HK.out.cell 2
  have q2 : w2.cell? ⟨w.heap.size + 1, 2, none⟩ = some (.slice F' Fn Fc') := HL.out.cell 2
  go_wp2_with fail
  refine (eqFuncS_c F F' Fn Fc Fc' funs funs' _ (R1.out.bel HB.out).F (R2.out.bel HB.out).F (fun x hx => ⟨by have := HX.out.FS x hx; omega, (R1.out.bel HB.out).FB x hx⟩) (fun x hx => ⟨by have := HY.out.FS x hx; omega, (R2.out.bel HB.out).FB x hx⟩) HF.out (by have := HX.out.F; simp only [] at this; omega)).mono ?_
  rintro e w3 ⟨rfl, hb⟩
  replace HK := hide (HK.out.bel hb)
  replace HL := hide (HL.out.bel hb)
  replace HB := hide (bel_step HB.out hb HB.out.size)
  clear hb p2 q2
  have p3 : w3.cell? ⟨w.heap.size, 3, none⟩ = some (.int .i64 pg) := HK.out.cell 3
  have q3 : w3.cell? ⟨w.heap.size + 1, 3, none⟩ = some (.int .i64 pg) := HL.out.cell 3
  have p4 : w3.cell? ⟨w.heap.size, 4, none⟩ = some (.int .i64 mo) := HK.out.cell 4
  have q4 : w3.cell? ⟨w.heap.size + 1, 4, none⟩ = some (.int .i64 mo) := HL.out.cell 4
  have p5 : w3.cell? ⟨w.heap.size, 5, none⟩ = some (.slice G Gn Gc) := HK.out.cell 5
  have q5 : w3.cell? ⟨w.heap.size + 1, 5, none⟩ = some (.slice G' Gn Gc') := HL.out.cell 5
  go_wp2_with fail
  refine (eqGlobalS_c G G' Gn Gc Gc' glos _ (R1.out.bel HB.out).G (R2.out.bel HB.out).G (by have := HX.out.G; simp only [] at this; omega)).mono ?_
  rintro e w4 ⟨rfl, hb⟩
  replace HK := hide (HK.out.bel hb)
  replace HL := hide (HL.out.bel hb)
  replace HB := hide (bel_step HB.out hb HB.out.size)
  clear hb p3 q3 p4 q4 p5 q5
  have p6 : w4.cell? ⟨w.heap.size, 6, none⟩ = some (.slice E En Ec) := HK.out.cell 6
  have q6 : w4.cell? ⟨w.heap.size + 1, 6, none⟩ = some (.slice E' En Ec') := HL.out.cell 6
  go_wp2_with fail
  refine (eqExportS_c E E' En Ec Ec' exps _ (R1.out.bel HB.out).E (R2.out.bel HB.out).E (by have := HX.out.E; simp only [] at this; omega)).mono ?_
  rintro e w5 ⟨rfl, hb⟩
  replace HK := hide (HK.out.bel hb)
  replace HL := hide (HL.out.bel hb)
  replace HB := hide (bel_step HB.out hb HB.out.size)
  clear hb p6 q6
  have p7 : w5.cell? ⟨w.heap.size, 7, none⟩ = some (.slice D Dn Dc) := HK.out.cell 7
  have q7 : w5.cell? ⟨w.heap.size + 1, 7, none⟩ = some (.slice D' Dn Dc') := HL.out.cell 7
  go_wp2_with fail
  refine (eqDataS_c D D' Dn Dc Dc' dats dats' _ (R1.out.bel HB.out).D (R2.out.bel HB.out).D (fun x hx => ⟨by have := HX.out.DS x hx; omega, (R1.out.bel HB.out).DB x hx⟩) (fun x hx => ⟨by have := HY.out.DS x hx; omega, (R2.out.bel HB.out).DB x hx⟩) HD.out (by have := HX.out.D; simp only [] at this; omega)).mono ?_
  rintro e w6 ⟨rfl, hb⟩
  replace HK := hide (HK.out.bel hb)
  replace HL := hide (HL.out.bel hb)
  replace HB := hide (bel_step HB.out hb HB.out.size)
  clear hb p7 q7
  go_wp2_with fail
  go_ret
  exact ⟨rfl, HB.out⟩
end Go.Proofs.YtiinkfejdnfonaaGreatDoor.Mo
