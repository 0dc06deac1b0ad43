/- ModuleBytes in the reference: a contract. -/
import Derived.Test.YtiinkfejdnfonaaGreatDoorMbS
import Derived.Test.YtiinkfejdnfonaaGreatDoorMbT
import Derived.Test.YtiinkfejdnfonaaGreatDoorMbU
import Derived.Test.YtiinkfejdnfonaaGreatDoorMbV
import Derived.Test.YtiinkfejdnfonaaGreatDoorMbM
import Derived.Test.YtiinkfejdnfonaaGreatDoorFmS
namespace Go.Proofs.YtiinkfejdnfonaaGreatDoor.Mb
open Go.RowKit Go.Proofs.YtiinkfejdnfonaaGreatDoor.Num Go.Proofs.YtiinkfejdnfonaaGreatDoor.NumC Go.Proofs.YtiinkfejdnfonaaGreatDoor.Mem Go.Proofs.YtiinkfejdnfonaaGreatDoor.Shape Go.Proofs.YtiinkfejdnfonaaGreatDoor.Utf Go.Proofs.YtiinkfejdnfonaaGreatDoor.Ops Go.Proofs.YtiinkfejdnfonaaGreatDoor.Leb Go.Proofs.YtiinkfejdnfonaaGreatDoor.Mo Go.Proofs.YtiinkfejdnfonaaGreatDoor.Bb Go.Proofs.YtiinkfejdnfonaaGreatDoor.NameC Go.Proofs.YtiinkfejdnfonaaGreatDoor.PutC
set_option linter.unusedVariables false
/-- the bytes that grow, beside the module's variable and two rows that were made ahead -/
structure BS (w : World) (bb r : Nat) (cs : Array Value) (t : TypeId) (A : Option Addr) (d : Nat) (L : List Int) (G1 : Option Addr) (n1 d1 : Nat) (X1 : List Int) (G2 : Option Addr) (n2 d2 : Nat) (X2 : List Int) (W : World) : Prop where
  bel : Below w.heap.size w W
  box : Blk W r cs t
  own : Ow W bb 5 1 A L.length d (by8 L)
  bbl : bb ≤ W.heap.size
  wb : w.heap.size ≤ bb
  rb : r < bb
  g1 : Ow W w.heap.size 5 1 G1 n1 d1 (by8 X1)
  l1 : ∀ g, blk G1 = some g → g < bb
  g2 : Ow W w.heap.size 5 1 G2 n2 d2 (by8 X2)
  l2 : ∀ g, blk G2 = some g → g < bb
section
variable {w W W' : World} {bb r : Nat} {cs : Array Value} {t : TypeId} {A : Option Addr} {d : Nat} {L : List Int} {G1 : Option Addr} {n1 d1 : Nat} {X1 : List Int} {G2 : Option Addr} {n2 d2 : Nat} {X2 : List Int}
theorem BS.keep (h : BS w bb r cs t A d L G1 n1 d1 X1 G2 n2 d2 X2 W) (hb : Below W.heap.size W W') : BS w bb r cs t A d L G1 n1 d1 X1 G2 n2 d2 X2 W' :=
  ⟨bel_step h.bel hb h.bel.size, h.box.bel hb, h.own.below hb (Nat.le_refl _), Nat.le_trans h.bbl hb.size, h.wb, h.rb, h.g1.below hb (Nat.le_refl _), h.l1, h.g2.below hb (Nat.le_refl _), h.l2⟩
theorem BS.drew (h : BS w bb r cs t A d L G1 n1 d1 X1 G2 n2 d2 X2 W) : BS w bb r cs t A d L G1 n1 d1 X1 G2 n2 d2 X2 W.drew :=
  ⟨bel_drewN h.bel 1, h.box, h.own, h.bbl, h.wb, h.rb, h.g1, h.l1, h.g2, h.l2⟩
theorem BS.wrote {B' : Option Addr} {d' N' : Nat} {L' S : List Int} (h : BS w bb r cs t A d L G1 n1 d1 X1 G2 n2 d2 X2 W) (hL : L ++ S = L') (hN : N' = L'.length) (ho : Ow W' bb 5 1 B' N' d' (by8 (L ++ S))) (hg : W.grownBy W' (blk A)) :
    BS w bb r cs t B' d' L' G1 n1 d1 X1 G2 n2 d2 X2 W' := by
  subst hN
  rw [hL] at ho
  have hge : ∀ g, blk A = some g → bb ≤ g := fun g hg => (h.own.blk_lt g hg).1
  have ne : ∀ {G : Option Addr}, (∀ g, blk G = some g → g < bb) → (blk G = none ∨ blk G ≠ blk A) := fun {G} hG => by
    rcases hb : blk G with _ | a
    · exact .inl rfl
    · exact .inr (fun e => by have h1 := hG a hb; have h2 := hge a e.symm; omega)
  exact ⟨bel_grown h.bel hg h.bel.size (fun g hg => Nat.le_trans h.wb (hge g hg)), bgrown h.box hg (fun e => by have := hge _ e; have := h.rb; omega), ho, Nat.le_trans h.bbl hg.size, h.wb, h.rb,
    h.g1.kept hg (ne h.l1), h.l1, h.g2.kept hg (ne h.l2), h.l2⟩
theorem sSec (h : BS w bb r cs t A d L G1 n1 d1 X1 G2 n2 d2 X2 W) (id : Int) (n : Nat) (B : Option Addr) (m c : Nat) (I L' : List Int) (hL : L ++ secB id n I = L') (hin : Rd W W.heap.size 1 B m (by8 I)) (hne : ∀ g, blk B = some g → blk A ≠ some g)
    (hnB : (L.length : Int) ≤ 100000000) (hm : (m : Int) ≤ 2000000) (hid0 : 0 ≤ id) (hid1 : id ≤ 255) :
    Calls Tryz.prog 24 #[.slice A L.length d, .int .i64 id, .int .i64 n, .slice B m c] W fun e W' => ∃ (B' : Option Addr) (d' : Nat), e = .returned (.slice B' L'.length d') ∧ BS w bb r cs t B' d' L' G1 n1 d1 X1 G2 n2 d2 X2 W' := by
  refine (sSection A L.length d bb L id n B m c I W h.own h.bbl hin hne hnB hm hid0 hid1).mono ?_
  rintro e W' ⟨B', d', rfl, ho, hg⟩
  have hN : L.length + (secB id n I).length = L'.length := by rw [← hL, List.length_append]
  exact ⟨B', d', by rw [hN], h.wrote hL hN ho hg⟩
end
theorem ne_fresh {W W1 : World} {base e size n c : Nat} {A B : Option Addr} {xs ys : List Value} {n' c' : Nat} (ho : Ow W base e size A n c xs) (hf : Ow W1 W.heap.size e size B n' c' ys) : ∀ g, blk B = some g → blk A ≠ some g := fun g hg he => by
  have h1 := (ho.blk_lt g he).2
  have h2 := (hf.blk_lt g hg).1
  omega
theorem modB_eq {m : MV} {W : World} (h : m.Reads W) : modB m.pl = headB ++ (secB 1 m.sh.2.1 (m.sigs.flatMap sigB) ++ (secB 2 m.ih.2.1 (m.imps.flatMap impB) ++ (secB 3 m.fh.2.1 (m.funs.flatMap fsV) ++ ((if 0 ≤ m.pages then secB 5 1 (memB m.pages m.most) else []) ++
    (secB 6 m.gh.2.1 (m.glos.flatMap gloB) ++ (secB 7 m.eh.2.1 (m.exps.flatMap expB) ++ (secB 10 m.fh.2.1 (m.funs.flatMap fnV) ++ secB 11 m.dh.2.1 (m.dats.flatMap datV)))))))) := by
  have q1 := rd_len sigL (by omega) h.S
  have q2 := rd_len impL (by omega) h.I
  have q3 := rd_len funL (by omega) h.F
  have q4 := rd_len gloL (by omega) h.G
  have q5 := rd_len expL (by omega) h.E
  have q6 := rd_len datL (by omega) h.D
  unfold modB MV.pl
  simp only [List.length_map, List.flatMap_map, q1, q2, q3, q4, q5, q6]
  rfl
/-- what ModuleBytes hands back -/
def BytesR (b : Bool) (L : List Int) (w : World) (e : Ending) (w' : World) : Prop := ∃ (A : Option Addr) (d : Nat), e = .returned (.tuple #[.slice A L.length d, .bool b]) ∧ Ow w' w.heap.size 5 1 A L.length d (by8 L) ∧ Below w.heap.size w w'
set_option maxRecDepth 100000 in
set_option maxHeartbeats 8000000 in
theorem sModuleBytes (m : MV) (w : World) (hR : m.Reads w) (hX : m.Long 1048576) : Calls Tryz.prog 6 #[m.v] w (BytesR (formR m.pl) (bytesM m.pl) w) := by
  have HQ := hide (formQ_iff m w hR)
  have HC := hide (fun W (hb : Below w.heap.size w W) => sFormOk m W (hR.bel hb) hX)
  have HE := hide (modB_eq hR)
  obtain ⟨R, hRR⟩ : ∃ R, formR m.pl = R := ⟨_, rfl⟩
  have hbm : bytesM m.pl = if R then modB m.pl else [] := by unfold bytesM; rw [hRR]
  rw [hRR] at HC HQ ⊢
  obtain ⟨Y, hY⟩ : ∃ Y, bytesM m.pl = Y := ⟨_, rfl⟩
  rw [hY]
  rw [hbm] at hY
  have HY := hide hY
  have HR := hide hR
  clear hRR hbm hY hR hX
  cases R
  · have hY0 : Y = [] := HY.out.symm
    subst hY0
    obtain ⟨⟨S, Sn, Sc⟩, ⟨I, In, Ic⟩, ⟨F, Fn, Fc⟩, pg, mo, ⟨G, Gn, Gc⟩, ⟨E, En, Ec⟩, ⟨D, Dn, Dc⟩, sigs, imps, funs, glos, exps, dats⟩ := m
    have HC2 : Hid (∀ W, Below w.heap.size w W → Calls Tryz.prog 22 #[.agg #[.slice S Sn Sc, .slice I In Ic, .slice F Fn Fc, .int .i64 pg, .int .i64 mo, .slice G Gn Gc, .slice E En Ec, .slice D Dn Dc]] W fun e w' => e = .returned (.bool false) ∧ Below W.heap.size W w') := hide (fun W hb => HC.out W hb)
    clear HC HQ HE HY HR
    change Calls Tryz.prog 6 #[.agg #[.slice S Sn Sc, .slice I In Ic, .slice F Fn Fc, .int .i64 pg, .int .i64 mo, .slice G Gn Gc, .slice E En Ec, .slice D Dn Dc]] w _
    have B0 := hide ((Below.refl w.heap.size w).alloc (Nat.le_refl _) (.cells #[.slice S Sn Sc, .slice I In Ic, .slice F Fn Fc, .int .i64 pg, .int .i64 mo, .slice G Gn Gc, .slice E En Ec, .slice D Dn Dc] 41))
    go_enter Tryz.func6, Tryz.ntmps6
    go_wp2_with fail
    refine (HC2.out _ B0.out).mono ?_
    rintro e v ⟨rfl, hb⟩
    have B1 := hide (bel_step B0.out hb B0.out.size)
    clear hb B0
    go_wp2_with fail
    go_ret2
    exact ⟨none, 0, rfl, (own_nilB v _ 1).base_le B1.out.size, B1.out⟩
  · have hq := HQ.out.1 rfl
    have hR := HR.out
    have a1 := hq.P.a1
    have a2 := hq.P.a2
    have a3 := hq.a3
    have a4 := hq.a4
    have a5 := hq.a5
    have tk : ∀ {α : Type} {f : α → List Int} {l : List α}, (∀ x ∈ l, (f x).length ≤ 17000) → l.length ≤ 60 → (l.flatMap f).length ≤ 1020000 := fun {α} {f} {l} h hl => by
      have := fm_take (k := l.length) h hl (Nat.le_refl _)
      rwa [fm_full rfl] at this
    have q1 := rd_len sigL (by omega) hR.S
    have q2 := rd_len impL (by omega) hR.I
    have q3 := rd_len funL (by omega) hR.F
    have q4 := rd_len gloL (by omega) hR.G
    have q5 := rd_len expL (by omega) hR.E
    have q6 := rd_len datL (by omega) hR.D
    have HZI1 := hide (tk (f := sigB) (l := m.sigs) (fun x hx => sigB_le (hq.P.sg x hx)) (by omega))
    have HZI2 := hide (tk (f := impB) (l := m.imps) (fun x hx => impB_le (hq.P.im x hx)) (by omega))
    have HZX1 := hide (tk (f := fsV) (l := m.funs) (fun x hx => fsB_le x.pl) (by omega))
    have HZX2 := hide (tk (f := fnV) (l := m.funs) (fun x hx => fnB_le (hq.P.fu x hx)) (by omega))
    have HZI6 := hide (tk (f := gloB) (l := m.glos) (fun x hx => gloB_le x) (by omega))
    have HZI7 := hide (tk (f := expB) (l := m.exps) (fun x hx => expB_le (hq.ex x hx)) (by omega))
    have HZI11 := hide (tk (f := datV) (l := m.dats) (fun x hx => datB_le (hq.da x hx)) (by omega))
    have HZI5 := hide (show (memB m.pages m.most).length ≤ 1020000 from Nat.le_trans (memB_le _ _) (by omega))
    have C1 := hide (show ∀ W, Below w.heap.size w W → Calls Tryz.prog 26 #[.slice m.sh.1 m.sh.2.1 m.sh.2.2] W (Fresh 5 1 (m.sigs.flatMap sigB).length (by8 (m.sigs.flatMap sigB)) W) from fun W hb => sSigs _ _ _ m.sigs W (hR.bel hb).S (by omega) hq.P.sg)
    have C2 := hide (show ∀ W, Below w.heap.size w W → Calls Tryz.prog 27 #[.slice m.ih.1 m.ih.2.1 m.ih.2.2] W (Fresh 5 1 (m.imps.flatMap impB).length (by8 (m.imps.flatMap impB)) W) from fun W hb => sImports _ _ _ m.imps W (hR.bel hb).I (by omega) m.sh.2.1 hq.P.im)
    have CF := hide (show ∀ W, Below w.heap.size w W → Calls Tryz.prog 23 #[.slice m.fh.1 m.fh.2.1 m.fh.2.2] W (TwoR W (m.funs.flatMap fsV) (m.funs.flatMap fnV)) from fun W hb => sFuncs _ _ _ m.sh.2.1 m.funs W (hR.bel hb).F (by omega) (fun x hx => ⟨by have h := hq.P.fu x hx; have hl := rd_ins (hR.FB x hx); simp only [funR, bodyR, FV.pl, Bool.and_eq_true] at h; have := of_decide_eq_true h.2.2.2.1; omega, (hR.bel hb).FB x hx⟩) hq.P.fu)
    have C5 := hide (show ∀ W, Calls Tryz.prog 28 #[m.v] W (Fresh 5 1 (memB m.pages m.most).length (by8 (memB m.pages m.most)) W) from fun W => sMemory m W)
    have C6 := hide (show ∀ W, Below w.heap.size w W → Calls Tryz.prog 29 #[.slice m.gh.1 m.gh.2.1 m.gh.2.2] W (Fresh 5 1 (m.glos.flatMap gloB).length (by8 (m.glos.flatMap gloB)) W) from fun W hb => sGlobals _ _ _ m.glos W (hR.bel hb).G (by omega))
    have C7 := hide (show ∀ W, Below w.heap.size w W → Calls Tryz.prog 30 #[.slice m.eh.1 m.eh.2.1 m.eh.2.2] W (Fresh 5 1 (m.exps.flatMap expB).length (by8 (m.exps.flatMap expB)) W) from fun W hb => sExports _ _ _ m.exps W (hR.bel hb).E (by omega) hq.ex)
    have C11 := hide (show ∀ W, Below w.heap.size w W → Calls Tryz.prog 31 #[.slice m.dh.1 m.dh.2.1 m.dh.2.2] W (Fresh 5 1 (m.dats.flatMap datV).length (by8 (m.dats.flatMap datV)) W) from fun W hb => sDatas _ _ _ m.dats W (hR.bel hb).D (by omega) (fun x hx => ⟨by have h := hq.da x hx; have hl := rd_by8 (hR.DB x hx); simp only [datR, DV.pl, Bool.and_eq_true] at h; have := of_decide_eq_true h.2; omega, (hR.bel hb).DB x hx⟩) hq.da)
    have HY2 : Hid (_ = Y) := hide (HE.out.symm.trans HY.out)
    clear a1 a2 a3 a4 a5 tk q1 q2 q3 q4 q5 q6 hq hR HQ HE HY HR
    obtain ⟨I1, hI1⟩ : ∃ I1, m.sigs.flatMap sigB = I1 := ⟨_, rfl⟩
    obtain ⟨I2, hI2⟩ : ∃ I2, m.imps.flatMap impB = I2 := ⟨_, rfl⟩
    obtain ⟨X1, hX1⟩ : ∃ X1, m.funs.flatMap fsV = X1 := ⟨_, rfl⟩
    obtain ⟨X2, hX2⟩ : ∃ X2, m.funs.flatMap fnV = X2 := ⟨_, rfl⟩
    obtain ⟨I5, hI5⟩ : ∃ I5, memB m.pages m.most = I5 := ⟨_, rfl⟩
    obtain ⟨I6, hI6⟩ : ∃ I6, m.glos.flatMap gloB = I6 := ⟨_, rfl⟩
    obtain ⟨I7, hI7⟩ : ∃ I7, m.exps.flatMap expB = I7 := ⟨_, rfl⟩
    obtain ⟨I11, hI11⟩ : ∃ I11, m.dats.flatMap datV = I11 := ⟨_, rfl⟩
    rw [hI1, hI2, hX1, hX2, hI5, hI6, hI7, hI11] at HY2
    rw [hI1] at C1 HZI1
    rw [hI2] at C2 HZI2
    rw [hX1] at CF HZX1
    rw [hX2] at CF HZX2
    rw [hI5] at C5 HZI5
    rw [hI6] at C6 HZI6
    rw [hI7] at C7 HZI7
    rw [hI11] at C11 HZI11
    clear hI1 hI2 hX1 hX2 hI5 hI6 hI7 hI11
    obtain ⟨⟨S, Sn, Sc⟩, ⟨I, In, Ic⟩, ⟨F, Fn, Fc⟩, pg, mo, ⟨G, Gn, Gc⟩, ⟨E, En, Ec⟩, ⟨D, Dn, Dc⟩, sigs, imps, funs, glos, exps, dats⟩ := m
    have HC2 : Hid (∀ W, Below w.heap.size w W → Calls Tryz.prog 22 #[.agg #[.slice S Sn Sc, .slice I In Ic, .slice F Fn Fc, .int .i64 pg, .int .i64 mo, .slice G Gn Gc, .slice E En Ec, .slice D Dn Dc]] W fun e w' => e = .returned (.bool true) ∧ Below W.heap.size W w') := hide (fun W hb => HC.out W hb)
    have C5b : Hid (∀ W, Calls Tryz.prog 28 #[.agg #[.slice S Sn Sc, .slice I In Ic, .slice F Fn Fc, .int .i64 pg, .int .i64 mo, .slice G Gn Gc, .slice E En Ec, .slice D Dn Dc]] W (Fresh 5 1 I5.length (by8 I5) W)) := hide (fun W => C5.out W)
    clear HC C5
    simp only [] at HY2 C1 C2 CF C6 C7 C11
    change Calls Tryz.prog 6 #[.agg #[.slice S Sn Sc, .slice I In Ic, .slice F Fn Fc, .int .i64 pg, .int .i64 mo, .slice G Gn Gc, .slice E En Ec, .slice D Dn Dc]] w _
    have B0 := hide ((Below.refl w.heap.size w).alloc (Nat.le_refl _) (.cells #[.slice S Sn Sc, .slice I In Ic, .slice F Fn Fc, .int .i64 pg, .int .i64 mo, .slice G Gn Gc, .slice E En Ec, .slice D Dn Dc] 41))
    have K0 := hide (Blk.new w #[.slice S Sn Sc, .slice I In Ic, .slice F Fn Fc, .int .i64 pg, .int .i64 mo, .slice G Gn Gc, .slice E En Ec, .slice D Dn Dc] 41)
    go_enter Tryz.func6, Tryz.ntmps6
    go_wp2_with fail
    refine (HC2.out _ B0.out).mono ?_
    rintro e v ⟨rfl, hb⟩
    have B1 := hide (bel_step B0.out hb B0.out.size)
    have K1 := hide (K0.out.bel hb)
    clear hb B0 K0 HC2
    have p2 : v.cell? ⟨w.heap.size, 2, none⟩ = some (.slice F Fn Fc) := K1.out.cell 2
    go_wp2_with fail
    refine (CF.out v B1.out).mono ?_
    rintro e w2 ⟨G1, G2, d1g, d2g, rfl, hg1, hg2, hb⟩
    have B2 := hide (bel_step B1.out hb B1.out.size)
    have K2 := hide (K1.out.bel hb)
    have HG := hide (And.intro (hg1.base_le B1.out.size) (hg2.base_le B1.out.size))
    clear hb hg1 hg2 p2 B1 K1 CF
    go_upto_region 4 with fail
    obtain ⟨L1, hL1⟩ : ∃ L1, headB ++ secB 1 Sn I1 = L1 := ⟨_, rfl⟩
    have hz1 : (L1.length : Int) ≤ 1020019 := by rw [← hL1, List.length_append]; have := secB_le (id := 1) (n := Sn) HZI1.out; have : headB.length = 8 := rfl; omega
    have HL1 := hide hL1
    clear hL1
    have hz0 : (headB.length : Int) ≤ 8 := by decide
    have HS := hide (show ∀ W, Blk W w.heap.size #[.slice S Sn Sc, .slice I In Ic, .slice F Fn Fc, .int .i64 pg, .int .i64 mo, .slice G Gn Gc, .slice E En Ec, .slice D Dn Dc] 41 → W.cell? ⟨w.heap.size, 0, none⟩ = some (.slice S Sn Sc) from fun W h => h.cell 0)
    go_region_held2 (fun W => W.cell? ⟨w.heap.size, 0, none⟩ = some (.slice S Sn Sc)) (first | with_reducible exact HS.out _ HB1.out.box | with_reducible exact HS.out _ HM0.out.1.box | with_reducible exact HS.out _ HB0.out.box | exact HS.out _ K2.out | fail "none") (first
      | (have h0 := HM0
         go_at_call 24
         refine (sSec HM0.out.1 1 Sn M0 I1.length x0 I1 L1 HL1.out HM0.out.2.1 HM0.out.2.2 (by omega) (by have := HZI1.out; omega) (by omega) (by omega)).mono ?_
         rintro e w1s ⟨A1, d1, rfl, hB⟩
         have HB1 := hide hB
         clear hB)
      | (have h0 := HB0
         go_at_call 26
         refine (C1.out _ HB0.out.bel).mono ?_
         rintro e w1m ⟨M0, x0, rfl, hoM, hbM⟩
         have HM0 := hide (And.intro (HB0.out.keep hbM) (And.intro hoM.rd (ne_fresh HB0.out.own hoM)))
         clear hoM hbM)
      | (go_at_call 25
         refine (sHead _).mono ?_
         rintro e w3 ⟨A0, d0, rfl, hoH, hbH⟩
         have HB0 := hide (show BS w w2.heap.size w.heap.size #[.slice S Sn Sc, .slice I In Ic, .slice F Fn Fc, .int .i64 pg, .int .i64 mo, .slice G Gn Gc, .slice E En Ec, .slice D Dn Dc] 41 A0 d0 headB G1 X1.length d1g X1 G2 X2.length d2g X2 w3 from
           ⟨bel_step (bel_drewN B2.out 1) hbH B2.out.size, Blk.bel (W := w2.drew) K2.out hbH, hoH, hbH.size, B2.out.size, K2.out.lt, Ow.below (w := w2.drew) HG.out.1 hbH (Nat.le_refl _), HG.out.1.lt, Ow.below (w := w2.drew) HG.out.2 hbH (Nat.le_refl _), HG.out.2.lt⟩)
         clear hoH hbH)
      | fail "no arm")
    clear HS HM0 HB0 hz0
    go_upto_region 5 with fail
    obtain ⟨L2, hL2⟩ : ∃ L2, L1 ++ secB 2 In I2 = L2 := ⟨_, rfl⟩
    have hz2 : (L2.length : Int) ≤ 2040030 := by rw [← hL2, List.length_append]; have := secB_le (id := 2) (n := In) HZI2.out; omega
    have HL2 := hide hL2
    clear hL2
    have HS := hide (show ∀ W, Blk W w.heap.size #[.slice S Sn Sc, .slice I In Ic, .slice F Fn Fc, .int .i64 pg, .int .i64 mo, .slice G Gn Gc, .slice E En Ec, .slice D Dn Dc] 41 → W.cell? ⟨w.heap.size, 1, none⟩ = some (.slice I In Ic) from fun W h => h.cell 1)
    go_region_held2 (fun W => W.cell? ⟨w.heap.size, 1, none⟩ = some (.slice I In Ic)) (first | with_reducible exact HS.out _ HB2.out.box | with_reducible exact HS.out _ HM1.out.1.box | with_reducible exact HS.out _ (BS.drew HB1.out).box | fail "none") (first
      | (have h0 := HM1
         go_at_call 24
         refine (sSec HM1.out.1 2 In M1 I2.length x1 I2 L2 HL2.out HM1.out.2.1 HM1.out.2.2 (by omega) (by have := HZI2.out; omega) (by omega) (by omega)).mono ?_
         rintro e w2s ⟨A2, d2, rfl, hB⟩
         have HB2 := hide hB
         clear hB)
      | (have h0 := HB1
         go_at_call 27
         refine (C2.out _ (BS.drew HB1.out).bel).mono ?_
         rintro e w2m ⟨M1, x1, rfl, hoM, hbM⟩
         have HM1 := hide (And.intro ((BS.drew HB1.out).keep hbM) (And.intro hoM.rd (ne_fresh (BS.drew HB1.out).own hoM)))
         clear hoM hbM)
      | fail "no arm")
    clear HS HM1 HB1
    have pj : w2s.cell? ⟨w.heap.size, 2, none⟩ = some (.slice F Fn Fc) := HB2.out.box.cell 2
    obtain ⟨L3, hL3⟩ : ∃ L3, L2 ++ secB 3 Fn X1 = L3 := ⟨_, rfl⟩
    have hz3 : (L3.length : Int) ≤ 3060041 := by rw [← hL3, List.length_append]; have := secB_le (id := 3) (n := Fn) HZX1.out; omega
    have HL3 := hide hL3
    clear hL3
    go_wp2_with fail
    refine (sSec HB2.out 3 Fn G1 X1.length d1g X1 L3 HL3.out HB2.out.g1.rd (fun g hg he => by have h1 := HB2.out.l1 g hg; have h2 := (HB2.out.own.blk_lt g he).1; omega) (by omega) (by have := HZX1.out; omega) (by omega) (by omega)).mono ?_
    rintro e w3s ⟨A3, d3, rfl, hB⟩
    have HB3 := hide hB
    clear hB pj HB2
    by_cases hpg : 0 ≤ pg
    · skip
      have p0 : w3s.cell? ⟨w.heap.size, 0, none⟩ = some (.slice S Sn Sc) := HB3.out.box.cell 0
      have p1 : w3s.cell? ⟨w.heap.size, 1, none⟩ = some (.slice I In Ic) := HB3.out.box.cell 1
      have p2 : w3s.cell? ⟨w.heap.size, 2, none⟩ = some (.slice F Fn Fc) := HB3.out.box.cell 2
      have p3 : w3s.cell? ⟨w.heap.size, 3, none⟩ = some (.int .i64 pg) := HB3.out.box.cell 3
      have p4 : w3s.cell? ⟨w.heap.size, 4, none⟩ = some (.int .i64 mo) := HB3.out.box.cell 4
      have p5 : w3s.cell? ⟨w.heap.size, 5, none⟩ = some (.slice G Gn Gc) := HB3.out.box.cell 5
      have p6 : w3s.cell? ⟨w.heap.size, 6, none⟩ = some (.slice E En Ec) := HB3.out.box.cell 6
      have p7 : w3s.cell? ⟨w.heap.size, 7, none⟩ = some (.slice D Dn Dc) := HB3.out.box.cell 7
      obtain ⟨L4, hL4⟩ : ∃ L4, L3 ++ secB 5 1 I5 = L4 := ⟨_, rfl⟩
      have hz4 : (L4.length : Int) ≤ 4080052 := by rw [← hL4, List.length_append]; have := secB_le (id := 5) (n := 1) HZI5.out; omega
      have HL4 := hide hL4
      clear hL4
      go_wp2_with fail
      refine (C5b.out w3s).mono ?_
      rintro e w4m ⟨M3, x3, rfl, hoM, hbM⟩
      have HM3 := hide (And.intro (HB3.out.keep hbM) (And.intro hoM.rd (ne_fresh HB3.out.own hoM)))
      clear hoM hbM HB3 p0 p1 p2 p3 p4 p5 p6 p7
      go_wp2_with fail
      refine (sSec HM3.out.1 5 1 M3 I5.length x3 I5 L4 HL4.out HM3.out.2.1 HM3.out.2.2 (by omega) (by have := HZI5.out; omega) (by omega) (by omega)).mono ?_
      rintro e w4s ⟨A4, d4, rfl, hB⟩
      have HB4 := hide hB
      clear hB HM3
      go_upto_region 9 with fail
      obtain ⟨L5, hL5⟩ : ∃ L5, L4 ++ secB 6 Gn I6 = L5 := ⟨_, rfl⟩
      have hz5 : (L5.length : Int) ≤ 5100063 := by rw [← hL5, List.length_append]; have := secB_le (id := 6) (n := Gn) HZI6.out; omega
      have HL5 := hide hL5
      clear hL5
      have HS := hide (show ∀ W, Blk W w.heap.size #[.slice S Sn Sc, .slice I In Ic, .slice F Fn Fc, .int .i64 pg, .int .i64 mo, .slice G Gn Gc, .slice E En Ec, .slice D Dn Dc] 41 → W.cell? ⟨w.heap.size, 5, none⟩ = some (.slice G Gn Gc) from fun W h => h.cell 5)
      go_region_held2 (fun W => W.cell? ⟨w.heap.size, 5, none⟩ = some (.slice G Gn Gc)) (first | with_reducible exact HS.out _ HB5.out.box | with_reducible exact HS.out _ HM4.out.1.box | with_reducible exact HS.out _ (BS.drew HB4.out).box | fail "none") (first
        | (have h0 := HM4
           go_at_call 24
           refine (sSec HM4.out.1 6 Gn M4 I6.length x4 I6 L5 HL5.out HM4.out.2.1 HM4.out.2.2 (by omega) (by have := HZI6.out; omega) (by omega) (by omega)).mono ?_
           rintro e w5s ⟨A5, d5, rfl, hB⟩
           have HB5 := hide hB
           clear hB)
        | (have h0 := HB4
           go_at_call 29
           refine (C6.out _ (BS.drew HB4.out).bel).mono ?_
           rintro e w5m ⟨M4, x4, rfl, hoM, hbM⟩
           have HM4 := hide (And.intro ((BS.drew HB4.out).keep hbM) (And.intro hoM.rd (ne_fresh (BS.drew HB4.out).own hoM)))
           clear hoM hbM)
        | fail "no arm")
      clear HS HM4 HB4
      go_upto_region 10 with fail
      obtain ⟨L6, hL6⟩ : ∃ L6, L5 ++ secB 7 En I7 = L6 := ⟨_, rfl⟩
      have hz6 : (L6.length : Int) ≤ 6120074 := by rw [← hL6, List.length_append]; have := secB_le (id := 7) (n := En) HZI7.out; omega
      have HL6 := hide hL6
      clear hL6
      have HS := hide (show ∀ W, Blk W w.heap.size #[.slice S Sn Sc, .slice I In Ic, .slice F Fn Fc, .int .i64 pg, .int .i64 mo, .slice G Gn Gc, .slice E En Ec, .slice D Dn Dc] 41 → W.cell? ⟨w.heap.size, 6, none⟩ = some (.slice E En Ec) from fun W h => h.cell 6)
      go_region_held2 (fun W => W.cell? ⟨w.heap.size, 6, none⟩ = some (.slice E En Ec)) (first | with_reducible exact HS.out _ HB6.out.box | with_reducible exact HS.out _ HM5.out.1.box | with_reducible exact HS.out _ (BS.drew HB5.out).box | fail "none") (first
        | (have h0 := HM5
           go_at_call 24
           refine (sSec HM5.out.1 7 En M5 I7.length x5 I7 L6 HL6.out HM5.out.2.1 HM5.out.2.2 (by omega) (by have := HZI7.out; omega) (by omega) (by omega)).mono ?_
           rintro e w6s ⟨A6, d6, rfl, hB⟩
           have HB6 := hide hB
           clear hB)
        | (have h0 := HB5
           go_at_call 30
           refine (C7.out _ (BS.drew HB5.out).bel).mono ?_
           rintro e w6m ⟨M5, x5, rfl, hoM, hbM⟩
           have HM5 := hide (And.intro ((BS.drew HB5.out).keep hbM) (And.intro hoM.rd (ne_fresh (BS.drew HB5.out).own hoM)))
           clear hoM hbM)
        | fail "no arm")
      clear HS HM5 HB5
      have pj : w6s.cell? ⟨w.heap.size, 2, none⟩ = some (.slice F Fn Fc) := HB6.out.box.cell 2
      obtain ⟨L7, hL7⟩ : ∃ L7, L6 ++ secB 10 Fn X2 = L7 := ⟨_, rfl⟩
      have hz7 : (L7.length : Int) ≤ 7140085 := by rw [← hL7, List.length_append]; have := secB_le (id := 10) (n := Fn) HZX2.out; omega
      have HL7 := hide hL7
      clear hL7
      go_wp2_with fail
      refine (sSec HB6.out 10 Fn G2 X2.length d2g X2 L7 HL7.out HB6.out.g2.rd (fun g hg he => by have h1 := HB6.out.l2 g hg; have h2 := (HB6.out.own.blk_lt g he).1; omega) (by omega) (by have := HZX2.out; omega) (by omega) (by omega)).mono ?_
      rintro e w7s ⟨A7, d7, rfl, hB⟩
      have HB7 := hide hB
      clear hB pj HB6
      go_upto_region 12 with fail
      obtain ⟨L8, hL8⟩ : ∃ L8, L7 ++ secB 11 Dn I11 = L8 := ⟨_, rfl⟩
      have hz8 : (L8.length : Int) ≤ 8160096 := by rw [← hL8, List.length_append]; have := secB_le (id := 11) (n := Dn) HZI11.out; omega
      have HL8 := hide hL8
      clear hL8
      have HS := hide (show ∀ W, Blk W w.heap.size #[.slice S Sn Sc, .slice I In Ic, .slice F Fn Fc, .int .i64 pg, .int .i64 mo, .slice G Gn Gc, .slice E En Ec, .slice D Dn Dc] 41 → W.cell? ⟨w.heap.size, 7, none⟩ = some (.slice D Dn Dc) from fun W h => h.cell 7)
      go_region_held2 (fun W => W.cell? ⟨w.heap.size, 7, none⟩ = some (.slice D Dn Dc)) (first | with_reducible exact HS.out _ HB8.out.box | with_reducible exact HS.out _ HM7.out.1.box | with_reducible exact HS.out _ (BS.drew HB7.out).box | fail "none") (first
        | (have h0 := HM7
           go_at_call 24
           refine (sSec HM7.out.1 11 Dn M7 I11.length x7 I11 L8 HL8.out HM7.out.2.1 HM7.out.2.2 (by omega) (by have := HZI11.out; omega) (by omega) (by omega)).mono ?_
           rintro e w8s ⟨A8, d8, rfl, hB⟩
           have HB8 := hide hB
           clear hB)
        | (have h0 := HB7
           go_at_call 31
           refine (C11.out _ (BS.drew HB7.out).bel).mono ?_
           rintro e w8m ⟨M7, x7, rfl, hoM, hbM⟩
           have HM7 := hide (And.intro ((BS.drew HB7.out).keep hbM) (And.intro hoM.rd (ne_fresh (BS.drew HB7.out).own hoM)))
           clear hoM hbM)
        | fail "no arm")
      clear HS HM7 HB7
      go_wp2_with fail
      go_ret2
      have hYL : L8 = Y := by
        rw [← HY2.out, if_pos hpg, ← HL8.out, ← HL7.out, ← HL6.out, ← HL5.out, ← HL4.out, ← HL3.out, ← HL2.out, ← HL1.out]
        simp only [List.append_assoc]
      subst hYL
      exact ⟨A8, d8, rfl, HB8.out.own.base_le HB8.out.wb, HB8.out.bel⟩
    · have p3 : w3s.cell? ⟨w.heap.size, 3, none⟩ = some (.int .i64 pg) := HB3.out.box.cell 3
      go_upto_region 9 with fail
      clear p3
      obtain ⟨L4, hL4⟩ : ∃ L4, L3 ++ secB 6 Gn I6 = L4 := ⟨_, rfl⟩
      have hz4 : (L4.length : Int) ≤ 4080052 := by rw [← hL4, List.length_append]; have := secB_le (id := 6) (n := Gn) HZI6.out; omega
      have HL4 := hide hL4
      clear hL4
      have HS := hide (show ∀ W, Blk W w.heap.size #[.slice S Sn Sc, .slice I In Ic, .slice F Fn Fc, .int .i64 pg, .int .i64 mo, .slice G Gn Gc, .slice E En Ec, .slice D Dn Dc] 41 → W.cell? ⟨w.heap.size, 5, none⟩ = some (.slice G Gn Gc) from fun W h => h.cell 5)
      go_region_held2 (fun W => W.cell? ⟨w.heap.size, 5, none⟩ = some (.slice G Gn Gc)) (first | with_reducible exact HS.out _ HB4.out.box | with_reducible exact HS.out _ HM3.out.1.box | with_reducible exact HS.out _ (BS.drew HB3.out).box | fail "none") (first
        | (have h0 := HM3
           go_at_call 24
           refine (sSec HM3.out.1 6 Gn M3 I6.length x3 I6 L4 HL4.out HM3.out.2.1 HM3.out.2.2 (by omega) (by have := HZI6.out; omega) (by omega) (by omega)).mono ?_
           rintro e w4s ⟨A4, d4, rfl, hB⟩
           have HB4 := hide hB
           clear hB)
        | (have h0 := HB3
           go_at_call 29
           refine (C6.out _ (BS.drew HB3.out).bel).mono ?_
           rintro e w4m ⟨M3, x3, rfl, hoM, hbM⟩
           have HM3 := hide (And.intro ((BS.drew HB3.out).keep hbM) (And.intro hoM.rd (ne_fresh (BS.drew HB3.out).own hoM)))
           clear hoM hbM)
        | fail "no arm")
      clear HS HM3 HB3
      go_upto_region 10 with fail
      obtain ⟨L5, hL5⟩ : ∃ L5, L4 ++ secB 7 En I7 = L5 := ⟨_, rfl⟩
      have hz5 : (L5.length : Int) ≤ 5100063 := by rw [← hL5, List.length_append]; have := secB_le (id := 7) (n := En) HZI7.out; omega
      have HL5 := hide hL5
      clear hL5
      have HS := hide (show ∀ W, Blk W w.heap.size #[.slice S Sn Sc, .slice I In Ic, .slice F Fn Fc, .int .i64 pg, .int .i64 mo, .slice G Gn Gc, .slice E En Ec, .slice D Dn Dc] 41 → W.cell? ⟨w.heap.size, 6, none⟩ = some (.slice E En Ec) from fun W h => h.cell 6)
      go_region_held2 (fun W => W.cell? ⟨w.heap.size, 6, none⟩ = some (.slice E En Ec)) (first | with_reducible exact HS.out _ HB5.out.box | with_reducible exact HS.out _ HM4.out.1.box | with_reducible exact HS.out _ (BS.drew HB4.out).box | fail "none") (first
        | (have h0 := HM4
           go_at_call 24
           refine (sSec HM4.out.1 7 En M4 I7.length x4 I7 L5 HL5.out HM4.out.2.1 HM4.out.2.2 (by omega) (by have := HZI7.out; omega) (by omega) (by omega)).mono ?_
           rintro e w5s ⟨A5, d5, rfl, hB⟩
           have HB5 := hide hB
           clear hB)
        | (have h0 := HB4
           go_at_call 30
           refine (C7.out _ (BS.drew HB4.out).bel).mono ?_
           rintro e w5m ⟨M4, x4, rfl, hoM, hbM⟩
           have HM4 := hide (And.intro ((BS.drew HB4.out).keep hbM) (And.intro hoM.rd (ne_fresh (BS.drew HB4.out).own hoM)))
           clear hoM hbM)
        | fail "no arm")
      clear HS HM4 HB4
      have pj : w5s.cell? ⟨w.heap.size, 2, none⟩ = some (.slice F Fn Fc) := HB5.out.box.cell 2
      obtain ⟨L6, hL6⟩ : ∃ L6, L5 ++ secB 10 Fn X2 = L6 := ⟨_, rfl⟩
      have hz6 : (L6.length : Int) ≤ 6120074 := by rw [← hL6, List.length_append]; have := secB_le (id := 10) (n := Fn) HZX2.out; omega
      have HL6 := hide hL6
      clear hL6
      go_wp2_with fail
      refine (sSec HB5.out 10 Fn G2 X2.length d2g X2 L6 HL6.out HB5.out.g2.rd (fun g hg he => by have h1 := HB5.out.l2 g hg; have h2 := (HB5.out.own.blk_lt g he).1; omega) (by omega) (by have := HZX2.out; omega) (by omega) (by omega)).mono ?_
      rintro e w6s ⟨A6, d6, rfl, hB⟩
      have HB6 := hide hB
      clear hB pj HB5
      go_upto_region 12 with fail
      obtain ⟨L7, hL7⟩ : ∃ L7, L6 ++ secB 11 Dn I11 = L7 := ⟨_, rfl⟩
      have hz7 : (L7.length : Int) ≤ 7140085 := by rw [← hL7, List.length_append]; have := secB_le (id := 11) (n := Dn) HZI11.out; omega
      have HL7 := hide hL7
      clear hL7
      have HS := hide (show ∀ W, Blk W w.heap.size #[.slice S Sn Sc, .slice I In Ic, .slice F Fn Fc, .int .i64 pg, .int .i64 mo, .slice G Gn Gc, .slice E En Ec, .slice D Dn Dc] 41 → W.cell? ⟨w.heap.size, 7, none⟩ = some (.slice D Dn Dc) from fun W h => h.cell 7)
      go_region_held2 (fun W => W.cell? ⟨w.heap.size, 7, none⟩ = some (.slice D Dn Dc)) (first | with_reducible exact HS.out _ HB7.out.box | with_reducible exact HS.out _ HM6.out.1.box | with_reducible exact HS.out _ (BS.drew HB6.out).box | fail "none") (first
        | (have h0 := HM6
           go_at_call 24
           refine (sSec HM6.out.1 11 Dn M6 I11.length x6 I11 L7 HL7.out HM6.out.2.1 HM6.out.2.2 (by omega) (by have := HZI11.out; omega) (by omega) (by omega)).mono ?_
           rintro e w7s ⟨A7, d7, rfl, hB⟩
           have HB7 := hide hB
           clear hB)
        | (have h0 := HB6
           go_at_call 31
           refine (C11.out _ (BS.drew HB6.out).bel).mono ?_
           rintro e w7m ⟨M6, x6, rfl, hoM, hbM⟩
           have HM6 := hide (And.intro ((BS.drew HB6.out).keep hbM) (And.intro hoM.rd (ne_fresh (BS.drew HB6.out).own hoM)))
           clear hoM hbM)
        | fail "no arm")
      clear HS HM6 HB6
      go_wp2_with fail
      go_ret2
      have hYL : L7 = Y := by
        rw [← HY2.out, if_neg (show ¬ (0 ≤ pg) by omega), ← HL7.out, ← HL6.out, ← HL5.out, ← HL4.out, ← HL3.out, ← HL2.out, ← HL1.out]
        simp only [List.append_assoc, List.nil_append]
      subst hYL
      exact ⟨A7, d7, rfl, HB7.out.own.base_le HB7.out.wb, HB7.out.bel⟩
end Go.Proofs.YtiinkfejdnfonaaGreatDoor.Mb
