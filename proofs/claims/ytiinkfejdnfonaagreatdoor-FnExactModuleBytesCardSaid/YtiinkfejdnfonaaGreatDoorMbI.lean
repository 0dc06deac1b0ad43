/- ModuleBytes in the program: a contract. -/
import Derived.Test.YtiinkfejdnfonaaGreatDoorMbX
import Derived.Test.YtiinkfejdnfonaaGreatDoorMbZ
import Derived.Test.YtiinkfejdnfonaaGreatDoorFmI
namespace Go.Proofs.YtiinkfejdnfonaaGreatDoor.Mb
open Go.RowKit Go.Proofs.YtiinkfejdnfonaaGreatDoor.Num Go.Proofs.YtiinkfejdnfonaaGreatDoor.NumC Go.Proofs.YtiinkfejdnfonaaGreatDoor.Mem Go.Proofs.YtiinkfejdnfonaaGreatDoor.Shape Go.Proofs.YtiinkfejdnfonaaGreatDoor.Utf Go.Proofs.YtiinkfejdnfonaaGreatDoor.Ops Go.Proofs.YtiinkfejdnfonaaGreatDoor.Leb Go.Proofs.YtiinkfejdnfonaaGreatDoor.Mo Go.Proofs.YtiinkfejdnfonaaGreatDoor.Bb Go.Proofs.YtiinkfejdnfonaaGreatDoor.NameC Go.Proofs.YtiinkfejdnfonaaGreatDoor.PutC
set_option linter.unusedVariables false
theorem add2_w (m : MV) (w : World) (hR : m.Reads w) (hq : FormQ m) (g : Nat) (A : Option Addr) (d : Nat) (L : List Int) (W : World) (L' : List Int) (h : IS w g w.heap.size m.cs 41 A d L W) (hL : L ++ secB 1 m.sh.2.1 (m.sigs.flatMap sigB) = L') (hz : (L.length : Int) ≤ 100000000) :
    Calls Tryz.prog 40 #[.int .i64 1, .int .i64 (m.sh.2.1 : Nat), .func (.func 43) #[] #[.pointer (some ⟨w.heap.size, 0, none⟩)], .pointer (some ⟨g, 0, none⟩)] W (AddR w g w.heap.size m.cs 41 L') := by
  refine iAdd2 w g w.heap.size m.cs 41 A d L W h 1 m.sh.2.1 (m.sigs.map sigB) L' (by rw [List.length_map]; exact rd_len sigL (by omega) hR.S) (by have := hq.P.a1; omega) (fun x hx => ?_) (fun k x hx W' hb => ?_) (by rw [List.flatMap_map]; exact hL) hz (by omega) (by omega)
  · obtain ⟨y, hy, rfl⟩ := List.mem_map.1 hx
    exact (fun y hy => sigB_le (hq.P.sg y hy)) y hy
  · exact iC2 w.heap.size m.cs m.sh.1 m.sh.2.1 m.sh.2.2 m.sigs W' (hR.bel (bel_step h.bel hb h.bel.size)).S (h.box.bel hb) rfl hq.P.sg k x hx
theorem add3_w (m : MV) (w : World) (hR : m.Reads w) (hq : FormQ m) (g : Nat) (A : Option Addr) (d : Nat) (L : List Int) (W : World) (L' : List Int) (h : IS w g w.heap.size m.cs 41 A d L W) (hL : L ++ secB 2 m.ih.2.1 (m.imps.flatMap impB) = L') (hz : (L.length : Int) ≤ 100000000) :
    Calls Tryz.prog 40 #[.int .i64 2, .int .i64 (m.ih.2.1 : Nat), .func (.func 45) #[] #[.pointer (some ⟨w.heap.size, 0, none⟩)], .pointer (some ⟨g, 0, none⟩)] W (AddR w g w.heap.size m.cs 41 L') := by
  refine iAdd3 w g w.heap.size m.cs 41 A d L W h 2 m.ih.2.1 (m.imps.map impB) L' (by rw [List.length_map]; exact rd_len impL (by omega) hR.I) (by have := hq.P.a2; omega) (fun x hx => ?_) (fun k x hx W' hb => ?_) (by rw [List.flatMap_map]; exact hL) hz (by omega) (by omega)
  · obtain ⟨y, hy, rfl⟩ := List.mem_map.1 hx
    exact (fun y hy => impB_le (hq.P.im y hy)) y hy
  · exact iC3 w.heap.size m.cs m.ih.1 m.ih.2.1 m.ih.2.2 m.imps W' (hR.bel (bel_step h.bel hb h.bel.size)).I (h.box.bel hb) rfl m.sh.2.1 hq.P.im k x hx
theorem add4_w (m : MV) (w : World) (hR : m.Reads w) (hq : FormQ m) (g : Nat) (A : Option Addr) (d : Nat) (L : List Int) (W : World) (L' : List Int) (h : IS w g w.heap.size m.cs 41 A d L W) (hL : L ++ secB 3 m.fh.2.1 (m.funs.flatMap fsV) = L') (hz : (L.length : Int) ≤ 100000000) :
    Calls Tryz.prog 40 #[.int .i64 3, .int .i64 (m.fh.2.1 : Nat), .func (.func 48) #[] #[.pointer (some ⟨w.heap.size, 0, none⟩)], .pointer (some ⟨g, 0, none⟩)] W (AddR w g w.heap.size m.cs 41 L') := by
  refine iAdd4 w g w.heap.size m.cs 41 A d L W h 3 m.fh.2.1 (m.funs.map fsV) L' (by rw [List.length_map]; exact rd_len funL (by omega) hR.F) (by have := hq.P.a2; omega) (fun x hx => ?_) (fun k x hx W' hb => ?_) (by rw [List.flatMap_map]; exact hL) hz (by omega) (by omega)
  · obtain ⟨y, hy, rfl⟩ := List.mem_map.1 hx
    exact (fun y hy => fsB_le y.pl) y hy
  · exact iC4 w.heap.size m.cs m.fh.1 m.fh.2.1 m.fh.2.2 m.funs W' (hR.bel (bel_step h.bel hb h.bel.size)).F (h.box.bel hb) rfl  k x hx
theorem add5_w (m : MV) (w : World) (hR : m.Reads w) (hq : FormQ m) (g : Nat) (A : Option Addr) (d : Nat) (L : List Int) (W : World) (L' : List Int) (h : IS w g w.heap.size m.cs 41 A d L W) (hL : L ++ secB 6 m.gh.2.1 (m.glos.flatMap gloB) = L') (hz : (L.length : Int) ≤ 100000000) :
    Calls Tryz.prog 40 #[.int .i64 6, .int .i64 (m.gh.2.1 : Nat), .func (.func 50) #[] #[.pointer (some ⟨w.heap.size, 0, none⟩)], .pointer (some ⟨g, 0, none⟩)] W (AddR w g w.heap.size m.cs 41 L') := by
  refine iAdd5 w g w.heap.size m.cs 41 A d L W h 6 m.gh.2.1 (m.glos.map gloB) L' (by rw [List.length_map]; exact rd_len gloL (by omega) hR.G) (by have := hq.a3; omega) (fun x hx => ?_) (fun k x hx W' hb => ?_) (by rw [List.flatMap_map]; exact hL) hz (by omega) (by omega)
  · obtain ⟨y, hy, rfl⟩ := List.mem_map.1 hx
    exact (fun y hy => gloB_le y) y hy
  · exact iC5 w.heap.size m.cs m.gh.1 m.gh.2.1 m.gh.2.2 m.glos W' (hR.bel (bel_step h.bel hb h.bel.size)).G (h.box.bel hb) rfl  k x hx
theorem add6_w (m : MV) (w : World) (hR : m.Reads w) (hq : FormQ m) (g : Nat) (A : Option Addr) (d : Nat) (L : List Int) (W : World) (L' : List Int) (h : IS w g w.heap.size m.cs 41 A d L W) (hL : L ++ secB 7 m.eh.2.1 (m.exps.flatMap expB) = L') (hz : (L.length : Int) ≤ 100000000) :
    Calls Tryz.prog 40 #[.int .i64 7, .int .i64 (m.eh.2.1 : Nat), .func (.func 52) #[] #[.pointer (some ⟨w.heap.size, 0, none⟩)], .pointer (some ⟨g, 0, none⟩)] W (AddR w g w.heap.size m.cs 41 L') := by
  refine iAdd6 w g w.heap.size m.cs 41 A d L W h 7 m.eh.2.1 (m.exps.map expB) L' (by rw [List.length_map]; exact rd_len expL (by omega) hR.E) (by have := hq.a4; omega) (fun x hx => ?_) (fun k x hx W' hb => ?_) (by rw [List.flatMap_map]; exact hL) hz (by omega) (by omega)
  · obtain ⟨y, hy, rfl⟩ := List.mem_map.1 hx
    exact (fun y hy => expB_le (hq.ex y hy)) y hy
  · exact iC6 w.heap.size m.cs m.eh.1 m.eh.2.1 m.eh.2.2 m.exps W' (hR.bel (bel_step h.bel hb h.bel.size)).E (h.box.bel hb) rfl hq.ex k x hx
theorem add7_w (m : MV) (w : World) (hR : m.Reads w) (hq : FormQ m) (g : Nat) (A : Option Addr) (d : Nat) (L : List Int) (W : World) (L' : List Int) (h : IS w g w.heap.size m.cs 41 A d L W) (hL : L ++ secB 10 m.fh.2.1 (m.funs.flatMap fnV) = L') (hz : (L.length : Int) ≤ 100000000) :
    Calls Tryz.prog 40 #[.int .i64 10, .int .i64 (m.fh.2.1 : Nat), .func (.func 53) #[] #[.pointer (some ⟨w.heap.size, 0, none⟩)], .pointer (some ⟨g, 0, none⟩)] W (AddR w g w.heap.size m.cs 41 L') := by
  refine iAdd7 w g w.heap.size m.cs 41 A d L W h 10 m.fh.2.1 (m.funs.map fnV) L' (by rw [List.length_map]; exact rd_len funL (by omega) hR.F) (by have := hq.P.a2; omega) (fun x hx => ?_) (fun k x hx W' hb => ?_) (by rw [List.flatMap_map]; exact hL) hz (by omega) (by omega)
  · obtain ⟨y, hy, rfl⟩ := List.mem_map.1 hx
    exact (fun y hy => fnB_le (hq.P.fu y hy)) y hy
  · exact iC7 w.heap.size m.cs m.fh.1 m.fh.2.1 m.fh.2.2 m.funs W' (hR.bel (bel_step h.bel hb h.bel.size)).F (h.box.bel hb) rfl m.sh.2.1 (hR.bel (bel_step h.bel hb h.bel.size)).FB hq.P.fu k x hx
theorem add8_w (m : MV) (w : World) (hR : m.Reads w) (hq : FormQ m) (g : Nat) (A : Option Addr) (d : Nat) (L : List Int) (W : World) (L' : List Int) (h : IS w g w.heap.size m.cs 41 A d L W) (hL : L ++ secB 11 m.dh.2.1 (m.dats.flatMap datV) = L') (hz : (L.length : Int) ≤ 100000000) :
    Calls Tryz.prog 40 #[.int .i64 11, .int .i64 (m.dh.2.1 : Nat), .func (.func 55) #[] #[.pointer (some ⟨w.heap.size, 0, none⟩)], .pointer (some ⟨g, 0, none⟩)] W (AddR w g w.heap.size m.cs 41 L') := by
  refine iAdd8 w g w.heap.size m.cs 41 A d L W h 11 m.dh.2.1 (m.dats.map datV) L' (by rw [List.length_map]; exact rd_len datL (by omega) hR.D) (by have := hq.a5; omega) (fun x hx => ?_) (fun k x hx W' hb => ?_) (by rw [List.flatMap_map]; exact hL) hz (by omega) (by omega)
  · obtain ⟨y, hy, rfl⟩ := List.mem_map.1 hx
    exact (fun y hy => datB_le (hq.da y hy)) y hy
  · exact iC8 w.heap.size m.cs m.dh.1 m.dh.2.1 m.dh.2.2 m.dats W' (hR.bel (bel_step h.bel hb h.bel.size)).D (h.box.bel hb) rfl (hR.bel (bel_step h.bel hb h.bel.size)).DB hq.da k x hx
set_option maxRecDepth 100000 in
set_option maxHeartbeats 8000000 in
theorem iModuleBytes (m : MV) (w : World) (hR : m.Reads w) (hX : m.Long 1048576) (hT : UTab w) : Calls Tryz.prog 8 #[m.v] w (BytesR (formR m.pl) (bytesM m.pl) w) := by
  have HQ := hide (formQ_iff m w hR)
  have HC := hide (fun W (hb : Below w.heap.size w W) => iFormOk m W (hR.bel hb) hX (utab_bel hT hb))
  have HE := hide (modB_eq hR)
  obtain ⟨R, hRR⟩ : ∃ R, formR m.pl = R := ⟨_, rfl⟩
  have hbm : bytesM m.pl = if R then modB m.pl else [] := by unfold bytesM; rw [hRR]
  rw [hRR] at HC HQ ⊢
  obtain ⟨Y, hY⟩ : ∃ Y, bytesM m.pl = Y := ⟨_, rfl⟩
  rw [hY]
  rw [hbm] at hY
  have HY := hide hY
  have HR := hide hR
  clear hRR hbm hY hR hX hT
  cases R
  · have hY0 : Y = [] := HY.out.symm
    subst hY0
    obtain ⟨⟨S, Sn, Sc⟩, ⟨I, In, Ic⟩, ⟨F, Fn, Fc⟩, pg, mo, ⟨G, Gn, Gc⟩, ⟨E, En, Ec⟩, ⟨D, Dn, Dc⟩, sigs, imps, funs, glos, exps, dats⟩ := m
    have HC2 : Hid (∀ W, Below w.heap.size w W → Calls Tryz.prog 38 #[.agg #[.slice S Sn Sc, .slice I In Ic, .slice F Fn Fc, .int .i64 pg, .int .i64 mo, .slice G Gn Gc, .slice E En Ec, .slice D Dn Dc]] W fun e w' => e = .returned (.bool false) ∧ Below W.heap.size W w') := hide (fun W hb => HC.out W hb)
    clear HC HQ HE HY HR
    change Calls Tryz.prog 8 #[.agg #[.slice S Sn Sc, .slice I In Ic, .slice F Fn Fc, .int .i64 pg, .int .i64 mo, .slice G Gn Gc, .slice E En Ec, .slice D Dn Dc]] w _
    have B0 := hide ((Below.refl w.heap.size w).alloc (Nat.le_refl _) (.cells #[.slice S Sn Sc, .slice I In Ic, .slice F Fn Fc, .int .i64 pg, .int .i64 mo, .slice G Gn Gc, .slice E En Ec, .slice D Dn Dc] 41))
    go_enter Tryz.func8, Tryz.ntmps8
    go_wp2_with fail
    refine (HC2.out _ B0.out).mono ?_
    rintro e v ⟨rfl, hb⟩
    have B1 := hide (bel_step B0.out hb B0.out.size)
    clear hb B0
    go_wp2_with fail
    go_ret2
    exact ⟨none, 0, rfl, (own_nilB v _ 1).base_le B1.out.size, B1.out⟩
  · have hq := HQ.out.1 rfl
    have hR := HR.out
    have a1 := hq.P.a1
    have a2 := hq.P.a2
    have a3 := hq.a3
    have a4 := hq.a4
    have a5 := hq.a5
    have hpg := hq.pg
    simp only [pagesR, inR, Bool.and_eq_true, decide_eq_true_eq] at hpg
    have tk : ∀ {α : Type} {f : α → List Int} {l : List α}, (∀ x ∈ l, (f x).length ≤ 17000) → l.length ≤ 60 → (l.flatMap f).length ≤ 1020000 := fun {α} {f} {l} h hl => by
      have := fm_take (k := l.length) h hl (Nat.le_refl _)
      rwa [fm_full rfl] at this
    have q1 := rd_len sigL (by omega) hR.S
    have q2 := rd_len impL (by omega) hR.I
    have q3 := rd_len funL (by omega) hR.F
    have q4 := rd_len gloL (by omega) hR.G
    have q5 := rd_len expL (by omega) hR.E
    have q6 := rd_len datL (by omega) hR.D
    have HZI1 := hide (tk (f := sigB) (l := m.sigs) (fun x hx => sigB_le (hq.P.sg x hx)) (by omega))
    have HZI2 := hide (tk (f := impB) (l := m.imps) (fun x hx => impB_le (hq.P.im x hx)) (by omega))
    have HZX1 := hide (tk (f := fsV) (l := m.funs) (fun x hx => fsB_le x.pl) (by omega))
    have HZX2 := hide (tk (f := fnV) (l := m.funs) (fun x hx => fnB_le (hq.P.fu x hx)) (by omega))
    have HZI6 := hide (tk (f := gloB) (l := m.glos) (fun x hx => gloB_le x) (by omega))
    have HZI7 := hide (tk (f := expB) (l := m.exps) (fun x hx => expB_le (hq.ex x hx)) (by omega))
    have HZI11 := hide (tk (f := datV) (l := m.dats) (fun x hx => datB_le (hq.da x hx)) (by omega))
    have HZI5 := hide (show (memB m.pages m.most).length ≤ 1020000 from Nat.le_trans (memB_le _ _) (by omega))
    have C1 := hide (add2_w m w hR hq)
    have C2 := hide (add3_w m w hR hq)
    have C3 := hide (add4_w m w hR hq)
    have C6 := hide (add5_w m w hR hq)
    have C7 := hide (add6_w m w hR hq)
    have C10 := hide (add7_w m w hR hq)
    have C11 := hide (add8_w m w hR hq)
    have C5 := hide (show ∀ W, Calls Tryz.prog 49 #[m.v] W (Fresh 5 1 (1 :: memB m.pages m.most).length (by8 (1 :: memB m.pages m.most)) W) from fun W => iMemory m W (by omega))
    have HMS := hide (mem_sec m.pages m.most)
    have HY2 : Hid (_ = Y) := hide (HE.out.symm.trans HY.out)
    clear a1 a2 a3 a4 a5 tk q1 q2 q3 q4 q5 q6 hq hR HQ HE HY HR
    obtain ⟨I1, hI1⟩ : ∃ I1, m.sigs.flatMap sigB = I1 := ⟨_, rfl⟩
    obtain ⟨I2, hI2⟩ : ∃ I2, m.imps.flatMap impB = I2 := ⟨_, rfl⟩
    obtain ⟨X1, hX1⟩ : ∃ X1, m.funs.flatMap fsV = X1 := ⟨_, rfl⟩
    obtain ⟨X2, hX2⟩ : ∃ X2, m.funs.flatMap fnV = X2 := ⟨_, rfl⟩
    obtain ⟨I5, hI5⟩ : ∃ I5, memB m.pages m.most = I5 := ⟨_, rfl⟩
    obtain ⟨I6, hI6⟩ : ∃ I6, m.glos.flatMap gloB = I6 := ⟨_, rfl⟩
    obtain ⟨I7, hI7⟩ : ∃ I7, m.exps.flatMap expB = I7 := ⟨_, rfl⟩
    obtain ⟨I11, hI11⟩ : ∃ I11, m.dats.flatMap datV = I11 := ⟨_, rfl⟩
    rw [hI1, hI2, hX1, hX2, hI5, hI6, hI7, hI11] at HY2
    rw [hI1] at C1 HZI1
    rw [hI2] at C2 HZI2
    rw [hX1] at C3 HZX1
    rw [hX2] at C10 HZX2
    rw [hI5] at C5 HZI5 HMS
    rw [hI6] at C6 HZI6
    rw [hI7] at C7 HZI7
    rw [hI11] at C11 HZI11
    clear hI1 hI2 hX1 hX2 hI5 hI6 hI7 hI11
    obtain ⟨⟨S, Sn, Sc⟩, ⟨I, In, Ic⟩, ⟨F, Fn, Fc⟩, pg, mo, ⟨G, Gn, Gc⟩, ⟨E, En, Ec⟩, ⟨D, Dn, Dc⟩, sigs, imps, funs, glos, exps, dats⟩ := m
    have HC2 : Hid (∀ W, Below w.heap.size w W → Calls Tryz.prog 38 #[.agg #[.slice S Sn Sc, .slice I In Ic, .slice F Fn Fc, .int .i64 pg, .int .i64 mo, .slice G Gn Gc, .slice E En Ec, .slice D Dn Dc]] W fun e w' => e = .returned (.bool true) ∧ Below W.heap.size W w') := hide (fun W hb => HC.out W hb)
    have C5b : Hid (∀ W, Calls Tryz.prog 49 #[.agg #[.slice S Sn Sc, .slice I In Ic, .slice F Fn Fc, .int .i64 pg, .int .i64 mo, .slice G Gn Gc, .slice E En Ec, .slice D Dn Dc]] W (Fresh 5 1 (1 :: I5).length (by8 (1 :: I5)) W)) := hide (fun W => C5.out W)
    have C1b : Hid (∀ (g : Nat) (A : Option Addr) (d : Nat) (L : List Int) (W : World) (L' : List Int), IS w g w.heap.size #[.slice S Sn Sc, .slice I In Ic, .slice F Fn Fc, .int .i64 pg, .int .i64 mo, .slice G Gn Gc, .slice E En Ec, .slice D Dn Dc] 41 A d L W → L ++ secB 1 Sn I1 = L' → (L.length : Int) ≤ 100000000 →
      Calls Tryz.prog 40 #[.int .i64 1, .int .i64 (Sn : Nat), .func (.func 43) #[] #[.pointer (some ⟨w.heap.size, 0, none⟩)], .pointer (some ⟨g, 0, none⟩)] W (AddR w g w.heap.size #[.slice S Sn Sc, .slice I In Ic, .slice F Fn Fc, .int .i64 pg, .int .i64 mo, .slice G Gn Gc, .slice E En Ec, .slice D Dn Dc] 41 L')) := hide (fun g A d L W L' h e z => C1.out g A d L W L' h e z)
    have C2b : Hid (∀ (g : Nat) (A : Option Addr) (d : Nat) (L : List Int) (W : World) (L' : List Int), IS w g w.heap.size #[.slice S Sn Sc, .slice I In Ic, .slice F Fn Fc, .int .i64 pg, .int .i64 mo, .slice G Gn Gc, .slice E En Ec, .slice D Dn Dc] 41 A d L W → L ++ secB 2 In I2 = L' → (L.length : Int) ≤ 100000000 →
      Calls Tryz.prog 40 #[.int .i64 2, .int .i64 (In : Nat), .func (.func 45) #[] #[.pointer (some ⟨w.heap.size, 0, none⟩)], .pointer (some ⟨g, 0, none⟩)] W (AddR w g w.heap.size #[.slice S Sn Sc, .slice I In Ic, .slice F Fn Fc, .int .i64 pg, .int .i64 mo, .slice G Gn Gc, .slice E En Ec, .slice D Dn Dc] 41 L')) := hide (fun g A d L W L' h e z => C2.out g A d L W L' h e z)
    have C3b : Hid (∀ (g : Nat) (A : Option Addr) (d : Nat) (L : List Int) (W : World) (L' : List Int), IS w g w.heap.size #[.slice S Sn Sc, .slice I In Ic, .slice F Fn Fc, .int .i64 pg, .int .i64 mo, .slice G Gn Gc, .slice E En Ec, .slice D Dn Dc] 41 A d L W → L ++ secB 3 Fn X1 = L' → (L.length : Int) ≤ 100000000 →
      Calls Tryz.prog 40 #[.int .i64 3, .int .i64 (Fn : Nat), .func (.func 48) #[] #[.pointer (some ⟨w.heap.size, 0, none⟩)], .pointer (some ⟨g, 0, none⟩)] W (AddR w g w.heap.size #[.slice S Sn Sc, .slice I In Ic, .slice F Fn Fc, .int .i64 pg, .int .i64 mo, .slice G Gn Gc, .slice E En Ec, .slice D Dn Dc] 41 L')) := hide (fun g A d L W L' h e z => C3.out g A d L W L' h e z)
    have C6b : Hid (∀ (g : Nat) (A : Option Addr) (d : Nat) (L : List Int) (W : World) (L' : List Int), IS w g w.heap.size #[.slice S Sn Sc, .slice I In Ic, .slice F Fn Fc, .int .i64 pg, .int .i64 mo, .slice G Gn Gc, .slice E En Ec, .slice D Dn Dc] 41 A d L W → L ++ secB 6 Gn I6 = L' → (L.length : Int) ≤ 100000000 →
      Calls Tryz.prog 40 #[.int .i64 6, .int .i64 (Gn : Nat), .func (.func 50) #[] #[.pointer (some ⟨w.heap.size, 0, none⟩)], .pointer (some ⟨g, 0, none⟩)] W (AddR w g w.heap.size #[.slice S Sn Sc, .slice I In Ic, .slice F Fn Fc, .int .i64 pg, .int .i64 mo, .slice G Gn Gc, .slice E En Ec, .slice D Dn Dc] 41 L')) := hide (fun g A d L W L' h e z => C6.out g A d L W L' h e z)
    have C7b : Hid (∀ (g : Nat) (A : Option Addr) (d : Nat) (L : List Int) (W : World) (L' : List Int), IS w g w.heap.size #[.slice S Sn Sc, .slice I In Ic, .slice F Fn Fc, .int .i64 pg, .int .i64 mo, .slice G Gn Gc, .slice E En Ec, .slice D Dn Dc] 41 A d L W → L ++ secB 7 En I7 = L' → (L.length : Int) ≤ 100000000 →
      Calls Tryz.prog 40 #[.int .i64 7, .int .i64 (En : Nat), .func (.func 52) #[] #[.pointer (some ⟨w.heap.size, 0, none⟩)], .pointer (some ⟨g, 0, none⟩)] W (AddR w g w.heap.size #[.slice S Sn Sc, .slice I In Ic, .slice F Fn Fc, .int .i64 pg, .int .i64 mo, .slice G Gn Gc, .slice E En Ec, .slice D Dn Dc] 41 L')) := hide (fun g A d L W L' h e z => C7.out g A d L W L' h e z)
    have C10b : Hid (∀ (g : Nat) (A : Option Addr) (d : Nat) (L : List Int) (W : World) (L' : List Int), IS w g w.heap.size #[.slice S Sn Sc, .slice I In Ic, .slice F Fn Fc, .int .i64 pg, .int .i64 mo, .slice G Gn Gc, .slice E En Ec, .slice D Dn Dc] 41 A d L W → L ++ secB 10 Fn X2 = L' → (L.length : Int) ≤ 100000000 →
      Calls Tryz.prog 40 #[.int .i64 10, .int .i64 (Fn : Nat), .func (.func 53) #[] #[.pointer (some ⟨w.heap.size, 0, none⟩)], .pointer (some ⟨g, 0, none⟩)] W (AddR w g w.heap.size #[.slice S Sn Sc, .slice I In Ic, .slice F Fn Fc, .int .i64 pg, .int .i64 mo, .slice G Gn Gc, .slice E En Ec, .slice D Dn Dc] 41 L')) := hide (fun g A d L W L' h e z => C10.out g A d L W L' h e z)
    have C11b : Hid (∀ (g : Nat) (A : Option Addr) (d : Nat) (L : List Int) (W : World) (L' : List Int), IS w g w.heap.size #[.slice S Sn Sc, .slice I In Ic, .slice F Fn Fc, .int .i64 pg, .int .i64 mo, .slice G Gn Gc, .slice E En Ec, .slice D Dn Dc] 41 A d L W → L ++ secB 11 Dn I11 = L' → (L.length : Int) ≤ 100000000 →
      Calls Tryz.prog 40 #[.int .i64 11, .int .i64 (Dn : Nat), .func (.func 55) #[] #[.pointer (some ⟨w.heap.size, 0, none⟩)], .pointer (some ⟨g, 0, none⟩)] W (AddR w g w.heap.size #[.slice S Sn Sc, .slice I In Ic, .slice F Fn Fc, .int .i64 pg, .int .i64 mo, .slice G Gn Gc, .slice E En Ec, .slice D Dn Dc] 41 L')) := hide (fun g A d L W L' h e z => C11.out g A d L W L' h e z)
    clear HC C5 C1 C2 C3 C6 C7 C10 C11
    simp only [] at HY2 hpg
    change Calls Tryz.prog 8 #[.agg #[.slice S Sn Sc, .slice I In Ic, .slice F Fn Fc, .int .i64 pg, .int .i64 mo, .slice G Gn Gc, .slice E En Ec, .slice D Dn Dc]] w _
    have B0 := hide ((Below.refl w.heap.size w).alloc (Nat.le_refl _) (.cells #[.slice S Sn Sc, .slice I In Ic, .slice F Fn Fc, .int .i64 pg, .int .i64 mo, .slice G Gn Gc, .slice E En Ec, .slice D Dn Dc] 41))
    have K0 := hide (Blk.new w #[.slice S Sn Sc, .slice I In Ic, .slice F Fn Fc, .int .i64 pg, .int .i64 mo, .slice G Gn Gc, .slice E En Ec, .slice D Dn Dc] 41)
    have HH := hide (fun W => iHeader W)
    go_enter Tryz.func8, Tryz.ntmps8
    go_wp2_with fail
    refine (HC2.out _ B0.out).mono ?_
    rintro e v ⟨rfl, hb⟩
    have B1 := hide (bel_step B0.out hb B0.out.size)
    have K1 := hide (K0.out.bel hb)
    clear hb B0 K0 HC2
    go_wp2_with fail
    refine (HH.out _).mono ?_
    rintro e w2 ⟨A0, d0, rfl, ho, hb⟩
    have B2 := hide (bel_step B1.out hb B1.out.size)
    have K2 := hide (K1.out.bel hb)
    have H0 : Hid (IS w w2.heap.size w.heap.size #[.slice S Sn Sc, .slice I In Ic, .slice F Fn Fc, .int .i64 pg, .int .i64 mo, .slice G Gn Gc, .slice E En Ec, .slice D Dn Dc] 41 A0 d0 headB (w2.alloc (.cells #[.slice A0 headB.length d0] 31))) := hide ⟨B2.out.alloc B2.out.size _, K2.out.alloc _, Blk.new w2 _ _, World.ownsRow.alloc (ho.base_le B1.out.size) _, by decide, by have := K2.out.lt; omega, B2.out.size⟩
    have p0 : (w2.alloc (.cells #[.slice A0 headB.length d0] 31)).cell? ⟨w.heap.size, 0, none⟩ = some (.slice S Sn Sc) := H0.out.box.cell 0
    have hz0 : (headB.length : Int) ≤ 8 := by decide
    clear ho hb B2 K2 B1 K1 HH
    go_wp2_with fail
    obtain ⟨g, hg⟩ : ∃ g, w2.heap.size = g := ⟨_, rfl⟩
    rw [hg] at H0 ⊢
    generalize w2.alloc (.cells #[.slice A0 headB.length d0] 31) = w0s at H0 p0 ⊢
    clear hg
    obtain ⟨L1, hL1⟩ : ∃ L1, headB ++ secB 1 Sn I1 = L1 := ⟨_, rfl⟩
    have hz1 : (L1.length : Int) ≤ 1020019 := by rw [← hL1, List.length_append]; have := secB_le (id := 1) (n := Sn) HZI1.out; omega
    have HL1 := hide hL1
    clear hL1
    refine (C1b.out g A0 d0 headB w0s L1 H0.out HL1.out (by omega)).mono ?_
    rintro e w1s ⟨rfl, A1, d1, hB⟩
    have H1 := hide hB
    clear hB H0 p0
    have p1 : w1s.cell? ⟨w.heap.size, 1, none⟩ = some (.slice I In Ic) := H1.out.box.cell 1
    go_wp2_with fail
    obtain ⟨L2, hL2⟩ : ∃ L2, L1 ++ secB 2 In I2 = L2 := ⟨_, rfl⟩
    have hz2 : (L2.length : Int) ≤ 2040030 := by rw [← hL2, List.length_append]; have := secB_le (id := 2) (n := In) HZI2.out; omega
    have HL2 := hide hL2
    clear hL2
    refine (C2b.out g A1 d1 L1 w1s L2 H1.out HL2.out (by omega)).mono ?_
    rintro e w2s ⟨rfl, A2, d2, hB⟩
    have H2 := hide hB
    clear hB H1 p1
    have p2 : w2s.cell? ⟨w.heap.size, 2, none⟩ = some (.slice F Fn Fc) := H2.out.box.cell 2
    go_wp2_with fail
    obtain ⟨L3, hL3⟩ : ∃ L3, L2 ++ secB 3 Fn X1 = L3 := ⟨_, rfl⟩
    have hz3 : (L3.length : Int) ≤ 3060041 := by rw [← hL3, List.length_append]; have := secB_le (id := 3) (n := Fn) HZX1.out; omega
    have HL3 := hide hL3
    clear hL3
    refine (C3b.out g A2 d2 L2 w2s L3 H2.out HL3.out (by omega)).mono ?_
    rintro e w3s ⟨rfl, A3, d3, hB⟩
    have H3 := hide hB
    clear hB H2 p2
    by_cases hpp : pg = -1
    · subst hpp
      have p3 : w3s.cell? ⟨w.heap.size, 3, none⟩ = some (.int .i64 (-1)) := H3.out.box.cell 3
      have p5 : w3s.cell? ⟨w.heap.size, 5, none⟩ = some (.slice G Gn Gc) := H3.out.box.cell 5
      go_wp2_with fail
      obtain ⟨L4, hL4⟩ : ∃ L4, L3 ++ secB 6 Gn I6 = L4 := ⟨_, rfl⟩
      have hz4 : (L4.length : Int) ≤ 4080052 := by rw [← hL4, List.length_append]; have := secB_le (id := 6) (n := Gn) HZI6.out; omega
      have HL4 := hide hL4
      clear hL4
      refine (C6b.out g A3 d3 L3 w3s L4 H3.out HL4.out (by omega)).mono ?_
      rintro e w4s ⟨rfl, A4, d4, hB⟩
      have H4 := hide hB
      clear hB H3 p5
      have p6 : w4s.cell? ⟨w.heap.size, 6, none⟩ = some (.slice E En Ec) := H4.out.box.cell 6
      go_wp2_with fail
      obtain ⟨L5, hL5⟩ : ∃ L5, L4 ++ secB 7 En I7 = L5 := ⟨_, rfl⟩
      have hz5 : (L5.length : Int) ≤ 5100063 := by rw [← hL5, List.length_append]; have := secB_le (id := 7) (n := En) HZI7.out; omega
      have HL5 := hide hL5
      clear hL5
      refine (C7b.out g A4 d4 L4 w4s L5 H4.out HL5.out (by omega)).mono ?_
      rintro e w5s ⟨rfl, A5, d5, hB⟩
      have H5 := hide hB
      clear hB H4 p6
      have p2 : w5s.cell? ⟨w.heap.size, 2, none⟩ = some (.slice F Fn Fc) := H5.out.box.cell 2
      go_wp2_with fail
      obtain ⟨L6, hL6⟩ : ∃ L6, L5 ++ secB 10 Fn X2 = L6 := ⟨_, rfl⟩
      have hz6 : (L6.length : Int) ≤ 6120074 := by rw [← hL6, List.length_append]; have := secB_le (id := 10) (n := Fn) HZX2.out; omega
      have HL6 := hide hL6
      clear hL6
      refine (C10b.out g A5 d5 L5 w5s L6 H5.out HL6.out (by omega)).mono ?_
      rintro e w6s ⟨rfl, A6, d6, hB⟩
      have H6 := hide hB
      clear hB H5 p2
      have p7 : w6s.cell? ⟨w.heap.size, 7, none⟩ = some (.slice D Dn Dc) := H6.out.box.cell 7
      go_wp2_with fail
      obtain ⟨L7, hL7⟩ : ∃ L7, L6 ++ secB 11 Dn I11 = L7 := ⟨_, rfl⟩
      have hz7 : (L7.length : Int) ≤ 7140085 := by rw [← hL7, List.length_append]; have := secB_le (id := 11) (n := Dn) HZI11.out; omega
      have HL7 := hide hL7
      clear hL7
      refine (C11b.out g A6 d6 L6 w6s L7 H6.out HL7.out (by omega)).mono ?_
      rintro e w7s ⟨rfl, A7, d7, hB⟩
      have H7 := hide hB
      clear hB H6 p7
      have pg0 : w7s.cell? ⟨g, 0, none⟩ = some (.slice A7 L7.length d7) := H7.out.ob.cell 0
      go_wp2_with fail
      go_ret2
      have hYL : L7 = Y := by
        rw [← HY2.out, if_neg (show ¬ (0 ≤ (-1 : Int)) by omega), ← HL7.out, ← HL6.out, ← HL5.out, ← HL4.out, ← HL3.out, ← HL2.out, ← HL1.out]
        simp only [List.append_assoc, List.nil_append]
      subst hYL
      exact ⟨A7, d7, rfl, H7.out.own, H7.out.bel⟩
    · have p3 : w3s.cell? ⟨w.heap.size, 3, none⟩ = some (.int .i64 pg) := H3.out.box.cell 3
      have hp0 : 0 ≤ pg := by omega
      have hp2 : (pg == -1) = false := by simp [hpp]
      obtain ⟨L4, hL4⟩ : ∃ L4, L3 ++ secB 5 1 I5 = L4 := ⟨_, rfl⟩
      have hz4 : (L4.length : Int) ≤ 4080052 := by rw [← hL4, List.length_append]; have := secB_le (id := 5) (n := 1) HZI5.out; omega
      obtain ⟨Yb, hYb⟩ : ∃ Yb, (1 : Int) :: I5 = Yb := ⟨_, rfl⟩
      have hYl : (Yb.length : Int) ≤ 1030000 := by rw [← hYb, List.length_cons]; have := HZI5.out; omega
      obtain ⟨Z, hZ⟩ : ∃ Z, (5 : Int) :: lenB Yb = Z := ⟨_, rfl⟩
      have hZl : (Z.length : Int) ≤ 1030010 := by
        rw [← hZ]
        have := u_le (Yb.length : Int)
        simp only [lenB, List.length_cons, List.length_append]
        omega
      have hL2 : L3 ++ Z = L4 := by rw [← hL4, HMS.out, ← hZ, ← hYb]; rfl
      have hL3 : L3.length + Z.length = L4.length := by rw [← hL2, List.length_append]
      have HLL := hide (And.intro hL2 hL3)
      have HL4 := hide hL4
      have C5c : Hid (∀ W, Calls Tryz.prog 49 #[.agg #[.slice S Sn Sc, .slice I In Ic, .slice F Fn Fc, .int .i64 pg, .int .i64 mo, .slice G Gn Gc, .slice E En Ec, .slice D Dn Dc]] W (Fresh 5 1 Yb.length (by8 Yb) W)) := hide (fun W => by rw [← hYb]; exact C5b.out W)
      have C6s := hide (show ∀ A n c W, Rd W W.heap.size 1 A n (by8 Yb) → (n : Int) ≤ 2000000 → Calls Tryz.prog 41 #[.int .i64 5, .slice A n c] W (Fresh 5 1 Z.length (by8 Z) W) from fun A n c W hr hn => by rw [← hZ]; exact iSection 5 A n c Yb W hr hn (by omega) (by omega))
      clear hL4 hYb hZ hL2 hL3 C5b HMS
      go_wp2_with fail
      have p0 : w3s.cell? ⟨w.heap.size, 0, none⟩ = some (.slice S Sn Sc) := H3.out.box.cell 0
      have p1 : w3s.cell? ⟨w.heap.size, 1, none⟩ = some (.slice I In Ic) := H3.out.box.cell 1
      have p2 : w3s.cell? ⟨w.heap.size, 2, none⟩ = some (.slice F Fn Fc) := H3.out.box.cell 2
      have p4 : w3s.cell? ⟨w.heap.size, 4, none⟩ = some (.int .i64 mo) := H3.out.box.cell 4
      have p5 : w3s.cell? ⟨w.heap.size, 5, none⟩ = some (.slice G Gn Gc) := H3.out.box.cell 5
      have p6 : w3s.cell? ⟨w.heap.size, 6, none⟩ = some (.slice E En Ec) := H3.out.box.cell 6
      have p7 : w3s.cell? ⟨w.heap.size, 7, none⟩ = some (.slice D Dn Dc) := H3.out.box.cell 7
      have c0 : w3s.cell? ⟨g, 0, none⟩ = some (.slice A3 L3.length d3) := H3.out.ob.cell 0
      go_region_law (first
        | (have h0 := M2
           refine stepA (xs := by8 L3) (ys := by8 Z) rfl _ _ rfl rfl rfl E8 M2.out.own HZ2.out (one8all _) (by omega) M2.out.bel.size ?_
           intro A4 d4 v3 ho3 hg3 hl3
           have M3 := hide (M2.out.app ho3 hg3 HLL.out.1 HLL.out.2)
           have c3 : v3.cell? ⟨g, 0, none⟩ = some (.slice A3 L3.length d3) := M3.out.2.cell 0
           have f3 : ∀ j, v3.frozen? ⟨g, j, none⟩ = false := fun j => M3.out.2.frozen j
           clear ho3 hg3 hl3)
        | (have h0 := M1
           go_simp
           go_at_call 41
           refine (C6s.out _ _ _ v1 HY1.out (by omega)).mono ?_
           rintro e v2 ⟨A2r, d2r, rfl, ho2, hb2⟩
           have M2 := hide (M1.out.keep hb2)
           have HZ2 := hide ho2.rd
           have c2 : v2.cell? ⟨g, 0, none⟩ = some (.slice A3 L3.length d3) := M2.out.ob.cell 0
           clear ho2 hb2)
        | (go_simp
           go_at_call 49
           refine (C5c.out _).mono ?_
           rintro e v1 ⟨A1r, d1r, rfl, ho1, hb1⟩
           have M1 := hide ((H3.out.drew).keep hb1)
           have HY1 := hide ho1.rd
           have c1 : v1.cell? ⟨g, 0, none⟩ = some (.slice A3 L3.length d3) := M1.out.ob.cell 0
           clear ho1 hb1))
      all_goals
        have H4 := hide (M3.out.1)
        clear M3 c0 c1 c2 c3 f3 HY1 HZ2 M2 M1 H3 p0 p1 p2 p3 p4 p5 p6 p7 HLL C5c C6s
        generalize v3.setCell ⟨g, 0, none⟩ (.slice A4 (L3.length + Z.length) d4) = w4s at H4 ⊢
        have p5 : w4s.cell? ⟨w.heap.size, 5, none⟩ = some (.slice G Gn Gc) := H4.out.box.cell 5
        have p5b : w4s.cell? ⟨w.heap.size, 5, none⟩ = some (.slice G Gn Gc) := H4.out.box.cell 5
        go_wp2_with fail
        obtain ⟨L5, hL5⟩ : ∃ L5, L4 ++ secB 6 Gn I6 = L5 := ⟨_, rfl⟩
        have hz5 : (L5.length : Int) ≤ 5100063 := by rw [← hL5, List.length_append]; have := secB_le (id := 6) (n := Gn) HZI6.out; omega
        have HL5 := hide hL5
        clear hL5
        refine (C6b.out g A4 d4 L4 w4s L5 H4.out HL5.out (by omega)).mono ?_
        rintro e w5s ⟨rfl, A5, d5, hB⟩
        have H5 := hide hB
        clear hB H4 p5 p5b
        have p6 : w5s.cell? ⟨w.heap.size, 6, none⟩ = some (.slice E En Ec) := H5.out.box.cell 6
        go_wp2_with fail
        obtain ⟨L6, hL6⟩ : ∃ L6, L5 ++ secB 7 En I7 = L6 := ⟨_, rfl⟩
        have hz6 : (L6.length : Int) ≤ 6120074 := by rw [← hL6, List.length_append]; have := secB_le (id := 7) (n := En) HZI7.out; omega
        have HL6 := hide hL6
        clear hL6
        refine (C7b.out g A5 d5 L5 w5s L6 H5.out HL6.out (by omega)).mono ?_
        rintro e w6s ⟨rfl, A6, d6, hB⟩
        have H6 := hide hB
        clear hB H5 p6
        have p2 : w6s.cell? ⟨w.heap.size, 2, none⟩ = some (.slice F Fn Fc) := H6.out.box.cell 2
        go_wp2_with fail
        obtain ⟨L7, hL7⟩ : ∃ L7, L6 ++ secB 10 Fn X2 = L7 := ⟨_, rfl⟩
        have hz7 : (L7.length : Int) ≤ 7140085 := by rw [← hL7, List.length_append]; have := secB_le (id := 10) (n := Fn) HZX2.out; omega
        have HL7 := hide hL7
        clear hL7
        refine (C10b.out g A6 d6 L6 w6s L7 H6.out HL7.out (by omega)).mono ?_
        rintro e w7s ⟨rfl, A7, d7, hB⟩
        have H7 := hide hB
        clear hB H6 p2
        have p7 : w7s.cell? ⟨w.heap.size, 7, none⟩ = some (.slice D Dn Dc) := H7.out.box.cell 7
        go_wp2_with fail
        obtain ⟨L8, hL8⟩ : ∃ L8, L7 ++ secB 11 Dn I11 = L8 := ⟨_, rfl⟩
        have hz8 : (L8.length : Int) ≤ 8160096 := by rw [← hL8, List.length_append]; have := secB_le (id := 11) (n := Dn) HZI11.out; omega
        have HL8 := hide hL8
        clear hL8
        refine (C11b.out g A7 d7 L7 w7s L8 H7.out HL8.out (by omega)).mono ?_
        rintro e w8s ⟨rfl, A8, d8, hB⟩
        have H8 := hide hB
        clear hB H7 p7
        have pg0 : w8s.cell? ⟨g, 0, none⟩ = some (.slice A8 L8.length d8) := H8.out.ob.cell 0
        go_wp2_with fail
        go_ret2
        have hYL : L8 = Y := by
          rw [← HY2.out, if_pos hp0, ← HL8.out, ← HL7.out, ← HL6.out, ← HL5.out, ← HL4.out, ← HL3.out, ← HL2.out, ← HL1.out]
          simp only [List.append_assoc]
        subst hYL
        exact ⟨A8, d8, rfl, H8.out.own, H8.out.bel⟩
end Go.Proofs.YtiinkfejdnfonaaGreatDoor.Mb
