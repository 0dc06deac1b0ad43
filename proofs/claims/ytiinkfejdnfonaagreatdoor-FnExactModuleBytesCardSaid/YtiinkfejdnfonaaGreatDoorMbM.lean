/- The memory's bytes, in the program and in the reference: a contract each. -/
import Derived.Test.YtiinkfejdnfonaaGreatDoorMbC
namespace Go.Proofs.YtiinkfejdnfonaaGreatDoor.Mb
open Go.RowKit Go.Proofs.YtiinkfejdnfonaaGreatDoor.Num Go.Proofs.YtiinkfejdnfonaaGreatDoor.NumC Go.Proofs.YtiinkfejdnfonaaGreatDoor.Mem Go.Proofs.YtiinkfejdnfonaaGreatDoor.Shape Go.Proofs.YtiinkfejdnfonaaGreatDoor.Utf Go.Proofs.YtiinkfejdnfonaaGreatDoor.Ops Go.Proofs.YtiinkfejdnfonaaGreatDoor.Leb Go.Proofs.YtiinkfejdnfonaaGreatDoor.Mo Go.Proofs.YtiinkfejdnfonaaGreatDoor.Bb Go.Proofs.YtiinkfejdnfonaaGreatDoor.NameC Go.Proofs.YtiinkfejdnfonaaGreatDoor.PutC
set_option linter.unusedVariables false
set_option maxRecDepth 100000 in
set_option maxHeartbeats 4000000 in
theorem sMemory (m : MV) (w : World) : Calls Tryz.prog 28 #[m.v] w (Fresh 5 1 (memB m.pages m.most).length (by8 (memB m.pages m.most)) w) := by
  obtain ⟨⟨S, Sn, Sc⟩, ⟨I, In, Ic⟩, ⟨F, Fn, Fc⟩, pg, mo, ⟨G, Gn, Gc⟩, ⟨E, En, Ec⟩, ⟨D, Dn, Dc⟩, sigs, imps, funs, glos, exps, dats⟩ := m
  obtain ⟨R, hR⟩ : ∃ R, memB pg mo = R := ⟨_, rfl⟩
  change Calls Tryz.prog 28 #[.agg #[.slice S Sn Sc, .slice I In Ic, .slice F Fn Fc, .int .i64 pg, .int .i64 mo, .slice G Gn Gc, .slice E En Ec, .slice D Dn Dc]] w (Fresh 5 1 (memB pg mo).length (by8 (memB pg mo)) w)
  rw [hR]
  have C1 := hide (show ∀ A n c bs w, Rd w w.heap.size 1 A n (by8 bs) → n ≤ 70368744177664 → Calls Tryz.prog 77 #[.slice A n c, .int .i64 pg] w (Fresh 5 1 (n + (u pg).length) (by8 (bs ++ u pg)) w) from fun A n c bs w hr hn => sPutU A n c bs pg w hr hn)
  have C2 := hide (show ∀ A n c bs w, Rd w w.heap.size 1 A n (by8 bs) → n ≤ 70368744177664 → Calls Tryz.prog 77 #[.slice A n c, .int .i64 mo] w (Fresh 5 1 (n + (u mo).length) (by8 (bs ++ u mo)) w) from fun A n c bs w hr hn => sPutU A n c bs mo w hr hn)
  have hz1 := u_le pg
  have hz2 := u_le mo
  have HC1 : Hid (((#[.int .u8 1] : Array Value)).toList = by8 [1] ∧ ([1] : List Int).length = 1) := hide ⟨rfl, rfl⟩
  have H0 := hide (CQ.mk0 (r := w.heap.size) (L := []) ((Below.refl w.heap.size w).alloc (Nat.le_refl _) (.cells #[.slice S Sn Sc, .slice I In Ic, .slice F Fn Fc, .int .i64 pg, .int .i64 mo, .slice G Gn Gc, .slice E En Ec, .slice D Dn Dc] 41)) (Blk.new w #[.slice S Sn Sc, .slice I In Ic, .slice F Fn Fc, .int .i64 pg, .int .i64 mo, .slice G Gn Gc, .slice E En Ec, .slice D Dn Dc] 41) (World.ownsRow.alloc (own_nilB w 5 1) _) (by decide))
  have HS := hide (show ∀ W, Blk W w.heap.size #[.slice S Sn Sc, .slice I In Ic, .slice F Fn Fc, .int .i64 pg, .int .i64 mo, .slice G Gn Gc, .slice E En Ec, .slice D Dn Dc] 41 → W.cell? ⟨w.heap.size, 3, none⟩ = some (.int .i64 pg) ∧ W.cell? ⟨w.heap.size, 4, none⟩ = some (.int .i64 mo) from fun W h => ⟨h.cell 3, h.cell 4⟩)
  by_cases hmo : mo < 0
  · have HF : Hid (R = [0] ++ u pg) := hide (by rw [← hR]; simp only [memB]; rw [if_pos hmo]; rfl)
    clear hR
    skip
    obtain ⟨P1, hP1⟩ : ∃ P1, u pg = P1 := ⟨_, rfl⟩
    rw [hP1] at C1 HF hz1
    clear hP1
    have HRL : Hid (Rd ((w.alloc (.cells #[.slice S Sn Sc, .slice I In Ic, .slice F Fn Fc, .int .i64 pg, .int .i64 mo, .slice G Gn Gc, .slice E En Ec, .slice D Dn Dc] 41)).alloc (.cells #[.int .u8 0] 5)) ((w.alloc (.cells #[.slice S Sn Sc, .slice I In Ic, .slice F Fn Fc, .int .i64 pg, .int .i64 mo, .slice G Gn Gc, .slice E En Ec, .slice D Dn Dc] 41)).alloc (.cells #[.int .u8 0] 5)).heap.size 1 (some ⟨w.heap.size + 1, 0, none⟩) 1 (by8 [0])) := hide (by
      have h := rdlit (w.alloc (.cells #[.slice S Sn Sc, .slice I In Ic, .slice F Fn Fc, .int .i64 pg, .int .i64 mo, .slice G Gn Gc, .slice E En Ec, .slice D Dn Dc] 41)) (c := #[.int .u8 0]) (M := [0]) (m := 1) ⟨rfl, rfl⟩
      simpa using h)
    have HBL := hide ((((Below.refl w.heap.size w).alloc (Nat.le_refl _) (.cells #[.slice S Sn Sc, .slice I In Ic, .slice F Fn Fc, .int .i64 pg, .int .i64 mo, .slice G Gn Gc, .slice E En Ec, .slice D Dn Dc] 41))).alloc (by simp) (.cells #[.int .u8 0] 5))
    go_enter Tryz.func28, Tryz.ntmps28
    go_wp2_with fail
    refine (C1.out _ 1 1 [0] _ HRL.out (by omega)).mono ?_
    rintro e w2 ⟨A2, d2, rfl, ho2, hb2⟩
    have HO2 := hide (ho2.base_le HBL.out.size)
    have HB2 := hide (bel_step HBL.out hb2 HBL.out.size)
    clear ho2 hb2
    go_wp2_with fail
    go_ret
    have e1 : 1 + P1.length = ([0] ++ P1).length := by simp; omega
    rw [HF.out, ← e1]
    exact ⟨A2, d2, rfl, HO2.out, HB2.out⟩
  · have HF : Hid (R = ([1] ++ u pg) ++ u mo) := hide (by rw [← hR]; simp only [memB]; rw [if_neg hmo]; rfl)
    clear hR
    skip
    skip
    obtain ⟨P1, hP1⟩ : ∃ P1, u pg = P1 := ⟨_, rfl⟩
    obtain ⟨P2, hP2⟩ : ∃ P2, u mo = P2 := ⟨_, rfl⟩
    rw [hP1] at C1 HF hz1
    rw [hP2] at C2 HF hz2
    clear hP1 hP2
    go_enter Tryz.func28, Tryz.ntmps28
    go_upto_region 3 with fail
    go_region_held2 (fun W => W.cell? ⟨w.heap.size, 3, none⟩ = some (.int .i64 pg) ∧ W.cell? ⟨w.heap.size, 4, none⟩ = some (.int .i64 mo)) (first | with_reducible exact HS.out _ H2.out.ch.box | with_reducible exact HS.out _ (H2.out.al _).ch.box | with_reducible exact HS.out _ ((H2.out.al _).al _).ch.box | with_reducible exact HS.out _ H1.out.ch.box | with_reducible exact HS.out _ (H1.out.al _).ch.box | with_reducible exact HS.out _ ((H1.out.al _).al _).ch.box | with_reducible exact HS.out _ (CQ.drew H0.out).ch.box | with_reducible exact HS.out _ (CQ.drew (H0.out.al _)).ch.box | with_reducible exact HS.out _ (CQ.drew ((H0.out.al _).al _)).ch.box) (first
      | (have h0 := H1
         go_at_call 77
         refine (C2.out A1 (1 + P1.length) d1 ([1] ++ P1) _ (by first | with_reducible exact H1.out.ch.own.rd | with_reducible exact (H1.out.al _).ch.own.rd | with_reducible exact ((H1.out.al _).al _).ch.own.rd | fail "none") (by omega)).mono ?_
         rintro e w2 ⟨A2, d2, rfl, hoj, hbj⟩
         first | (with_reducible have H2 := hide (H1.out.call hoj hbj)) | (with_reducible have H2 := hide ((H1.out.al _).call hoj hbj)) | (with_reducible have H2 := hide (((H1.out.al _).al _).call hoj hbj)) | fail "none"
         clear hoj hbj)
      | (have h0 := H0
         go_at_call 77
         refine (C1.out _ 1 1 [1] _ (by first | with_reducible exact (CQ.drew H0.out).rdq (by first | (simp; done) | (simp; omega)) HC1 | with_reducible exact (CQ.drew (H0.out.al _)).rdq (by first | (simp; done) | (simp; omega)) HC1 | with_reducible exact (CQ.drew ((H0.out.al _).al _)).rdq (by first | (simp; done) | (simp; omega)) HC1 | fail "none") (by omega)).mono ?_
         rintro e w1 ⟨A1, d1, rfl, hoj, hbj⟩
         first | (with_reducible have H1 := hide ((CQ.drew H0.out).call hoj hbj)) | (with_reducible have H1 := hide ((CQ.drew (H0.out.al _)).call hoj hbj)) | (with_reducible have H1 := hide ((CQ.drew ((H0.out.al _).al _)).call hoj hbj)) | fail "none"
         clear hoj hbj)
      | fail "no arm")
    go_wp2_with fail
    go_ret
    have e1 : 1 + P1.length + P2.length = ([1] ++ P1 ++ P2).length := by simp; omega
    rw [HF.out, ← e1]
    exact ⟨A2, d2, rfl, H2.out.ch.own, H2.out.ch.bel⟩
set_option maxRecDepth 100000 in
set_option maxHeartbeats 4000000 in
theorem iMemory (m : MV) (w : World) (hm : m.most = -1 ∨ 0 ≤ m.most) : Calls Tryz.prog 49 #[m.v] w (Fresh 5 1 (1 :: memB m.pages m.most).length (by8 (1 :: memB m.pages m.most)) w) := by
  obtain ⟨⟨S, Sn, Sc⟩, ⟨I, In, Ic⟩, ⟨F, Fn, Fc⟩, pg, mo, ⟨G, Gn, Gc⟩, ⟨E, En, Ec⟩, ⟨D, Dn, Dc⟩, sigs, imps, funs, glos, exps, dats⟩ := m
  simp only [] at hm
  obtain ⟨R, hR⟩ : ∃ R, 1 :: memB pg mo = R := ⟨_, rfl⟩
  change Calls Tryz.prog 49 #[.agg #[.slice S Sn Sc, .slice I In Ic, .slice F Fn Fc, .int .i64 pg, .int .i64 mo, .slice G Gn Gc, .slice E En Ec, .slice D Dn Dc]] w (Fresh 5 1 (1 :: memB pg mo).length (by8 (1 :: memB pg mo)) w)
  rw [hR]
  have C1 := hide (show ∀ A n c bs w, Rd w w.heap.size 1 A n (by8 bs) → n ≤ 70368744177664 → Calls Tryz.prog 46 #[.slice A n c, .int .i64 pg] w (Fresh 5 1 (n + (u pg).length) (by8 (bs ++ u pg)) w) from fun A n c bs w hr hn => iPutU A n c bs pg w hr hn)
  have C2 := hide (show ∀ A n c bs w, Rd w w.heap.size 1 A n (by8 bs) → n ≤ 70368744177664 → Calls Tryz.prog 46 #[.slice A n c, .int .i64 mo] w (Fresh 5 1 (n + (u mo).length) (by8 (bs ++ u mo)) w) from fun A n c bs w hr hn => iPutU A n c bs mo w hr hn)
  have hz1 := u_le pg
  have hz2 := u_le mo
  have HC1 : Hid (((#[.int .u8 1, .int .u8 1] : Array Value)).toList = by8 [1, 1] ∧ ([1, 1] : List Int).length = 2) := hide ⟨rfl, rfl⟩
  have H0 := hide (CQ.mk0 (r := w.heap.size) (L := []) ((Below.refl w.heap.size w).alloc (Nat.le_refl _) (.cells #[.slice S Sn Sc, .slice I In Ic, .slice F Fn Fc, .int .i64 pg, .int .i64 mo, .slice G Gn Gc, .slice E En Ec, .slice D Dn Dc] 41)) (Blk.new w #[.slice S Sn Sc, .slice I In Ic, .slice F Fn Fc, .int .i64 pg, .int .i64 mo, .slice G Gn Gc, .slice E En Ec, .slice D Dn Dc] 41) (World.ownsRow.alloc (own_nilB w 5 1) _) (by decide))
  have HS := hide (show ∀ W, Blk W w.heap.size #[.slice S Sn Sc, .slice I In Ic, .slice F Fn Fc, .int .i64 pg, .int .i64 mo, .slice G Gn Gc, .slice E En Ec, .slice D Dn Dc] 41 → W.cell? ⟨w.heap.size, 3, none⟩ = some (.int .i64 pg) ∧ W.cell? ⟨w.heap.size, 4, none⟩ = some (.int .i64 mo) from fun W h => ⟨h.cell 3, h.cell 4⟩)
  by_cases hmo : mo < 0
  · have HF : Hid (R = [1, 0] ++ u pg) := hide (by rw [← hR]; simp only [memB]; rw [if_pos hmo]; rfl)
    clear hR
    have hmb : (mo == -1) = true := by simp; omega
    obtain ⟨P1, hP1⟩ : ∃ P1, u pg = P1 := ⟨_, rfl⟩
    rw [hP1] at C1 HF hz1
    clear hP1
    have HRL : Hid (Rd ((w.alloc (.cells #[.slice S Sn Sc, .slice I In Ic, .slice F Fn Fc, .int .i64 pg, .int .i64 mo, .slice G Gn Gc, .slice E En Ec, .slice D Dn Dc] 41)).alloc (.cells #[.int .u8 1, .int .u8 0] 5)) ((w.alloc (.cells #[.slice S Sn Sc, .slice I In Ic, .slice F Fn Fc, .int .i64 pg, .int .i64 mo, .slice G Gn Gc, .slice E En Ec, .slice D Dn Dc] 41)).alloc (.cells #[.int .u8 1, .int .u8 0] 5)).heap.size 1 (some ⟨w.heap.size + 1, 0, none⟩) 2 (by8 [1, 0])) := hide (by
      have h := rdlit (w.alloc (.cells #[.slice S Sn Sc, .slice I In Ic, .slice F Fn Fc, .int .i64 pg, .int .i64 mo, .slice G Gn Gc, .slice E En Ec, .slice D Dn Dc] 41)) (c := #[.int .u8 1, .int .u8 0]) (M := [1, 0]) (m := 2) ⟨rfl, rfl⟩
      simpa using h)
    have HBL := hide ((((Below.refl w.heap.size w).alloc (Nat.le_refl _) (.cells #[.slice S Sn Sc, .slice I In Ic, .slice F Fn Fc, .int .i64 pg, .int .i64 mo, .slice G Gn Gc, .slice E En Ec, .slice D Dn Dc] 41))).alloc (by simp) (.cells #[.int .u8 1, .int .u8 0] 5))
    go_enter Tryz.func49, Tryz.ntmps49
    go_wp2_with fail
    refine (C1.out _ 2 2 [1, 0] _ HRL.out (by omega)).mono ?_
    rintro e w2 ⟨A2, d2, rfl, ho2, hb2⟩
    have HO2 := hide (ho2.base_le HBL.out.size)
    have HB2 := hide (bel_step HBL.out hb2 HBL.out.size)
    clear ho2 hb2
    go_wp2_with fail
    go_ret
    have e1 : 2 + P1.length = ([1, 0] ++ P1).length := by simp; omega
    rw [HF.out, ← e1]
    exact ⟨A2, d2, rfl, HO2.out, HB2.out⟩
  · have HF : Hid (R = ([1, 1] ++ u pg) ++ u mo) := hide (by rw [← hR]; simp only [memB]; rw [if_neg hmo]; rfl)
    clear hR
    have hmb : (mo == -1) = false := by simp; omega
    have hmi : ¬ mo = -1 := by omega
    obtain ⟨P1, hP1⟩ : ∃ P1, u pg = P1 := ⟨_, rfl⟩
    obtain ⟨P2, hP2⟩ : ∃ P2, u mo = P2 := ⟨_, rfl⟩
    rw [hP1] at C1 HF hz1
    rw [hP2] at C2 HF hz2
    clear hP1 hP2
    go_enter Tryz.func49, Tryz.ntmps49
    go_upto_region 3 with fail
    go_region_held2 (fun W => W.cell? ⟨w.heap.size, 3, none⟩ = some (.int .i64 pg) ∧ W.cell? ⟨w.heap.size, 4, none⟩ = some (.int .i64 mo)) (first | with_reducible exact HS.out _ H2.out.ch.box | with_reducible exact HS.out _ (H2.out.al _).ch.box | with_reducible exact HS.out _ ((H2.out.al _).al _).ch.box | with_reducible exact HS.out _ H1.out.ch.box | with_reducible exact HS.out _ (H1.out.al _).ch.box | with_reducible exact HS.out _ ((H1.out.al _).al _).ch.box | with_reducible exact HS.out _ (CQ.drew H0.out).ch.box | with_reducible exact HS.out _ (CQ.drew (H0.out.al _)).ch.box | with_reducible exact HS.out _ (CQ.drew ((H0.out.al _).al _)).ch.box) (first
      | (have h0 := H1
         go_at_call 46
         refine (C2.out A1 (2 + P1.length) d1 ([1, 1] ++ P1) _ (by first | with_reducible exact H1.out.ch.own.rd | with_reducible exact (H1.out.al _).ch.own.rd | with_reducible exact ((H1.out.al _).al _).ch.own.rd | fail "none") (by omega)).mono ?_
         rintro e w2 ⟨A2, d2, rfl, hoj, hbj⟩
         first | (with_reducible have H2 := hide (H1.out.call hoj hbj)) | (with_reducible have H2 := hide ((H1.out.al _).call hoj hbj)) | (with_reducible have H2 := hide (((H1.out.al _).al _).call hoj hbj)) | fail "none"
         clear hoj hbj)
      | (have h0 := H0
         go_at_call 46
         refine (C1.out _ 2 2 [1, 1] _ (by first | with_reducible exact (CQ.drew H0.out).rdq (by first | (simp; done) | (simp; omega)) HC1 | with_reducible exact (CQ.drew (H0.out.al _)).rdq (by first | (simp; done) | (simp; omega)) HC1 | with_reducible exact (CQ.drew ((H0.out.al _).al _)).rdq (by first | (simp; done) | (simp; omega)) HC1 | fail "none") (by omega)).mono ?_
         rintro e w1 ⟨A1, d1, rfl, hoj, hbj⟩
         first | (with_reducible have H1 := hide ((CQ.drew H0.out).call hoj hbj)) | (with_reducible have H1 := hide ((CQ.drew (H0.out.al _)).call hoj hbj)) | (with_reducible have H1 := hide ((CQ.drew ((H0.out.al _).al _)).call hoj hbj)) | fail "none"
         clear hoj hbj)
      | fail "no arm")
    go_wp2_with fail
    go_ret
    have e1 : 2 + P1.length + P2.length = ([1, 1] ++ P1 ++ P2).length := by simp; omega
    rw [HF.out, ← e1]
    exact ⟨A2, d2, rfl, H2.out.ch.own, H2.out.ch.bel⟩
end Go.Proofs.YtiinkfejdnfonaaGreatDoor.Mb
