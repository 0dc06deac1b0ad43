/- The program's closures that write one part each: a contract each. -/
import Derived.Test.YtiinkfejdnfonaaGreatDoorMbK
namespace Go.Proofs.YtiinkfejdnfonaaGreatDoor.Mb
open Go.RowKit Go.Proofs.YtiinkfejdnfonaaGreatDoor.Num Go.Proofs.YtiinkfejdnfonaaGreatDoor.NumC Go.Proofs.YtiinkfejdnfonaaGreatDoor.Mem Go.Proofs.YtiinkfejdnfonaaGreatDoor.Shape Go.Proofs.YtiinkfejdnfonaaGreatDoor.Utf Go.Proofs.YtiinkfejdnfonaaGreatDoor.Ops Go.Proofs.YtiinkfejdnfonaaGreatDoor.Leb Go.Proofs.YtiinkfejdnfonaaGreatDoor.Mo Go.Proofs.YtiinkfejdnfonaaGreatDoor.Bb Go.Proofs.YtiinkfejdnfonaaGreatDoor.NameC Go.Proofs.YtiinkfejdnfonaaGreatDoor.PutC
set_option linter.unusedVariables false
set_option maxRecDepth 100000 in
set_option maxHeartbeats 4000000 in
theorem iC2 (g : Nat) (cs : Array Value) (A : Option Addr) (n c : Nat) (l : List Sig2) (w : World) (hr : Rd w w.heap.size 2 A n (fl sigC l)) (hK : Blk w g cs 41) (hj : cs[0]? = some (.slice A n c)) (hq : ∀ x ∈ l, sigR x = true)
    (k : Nat) (x : List Int) (hx : (l.map sigB)[k]? = some x) : Calls Tryz.prog 43 #[.int .i64 k, .pointer (some ⟨g, 0, none⟩)] w (Fresh 5 1 x.length (by8 x) w) := by
  have hl := rd_len sigL (by omega) hr
  rw [List.getElem?_map] at hx
  obtain ⟨e0, he0, rfl⟩ := Option.map_eq_some_iff.1 hx
  have hkl : k < n := by have := (List.getElem?_eq_some_iff.1 he0).1; omega
  obtain ⟨b, off, e1, rfl, he1, hbb, hcell⟩ := rd_get (wr := w) sigL (by omega) hr k hkl (fun p hp => rfl)
  rw [he0] at he1
  obtain rfl : e0 = e1 := Option.some.inj he1
  have hi0 : (0 : Int) ≤ k := by omega
  have hi1 : (k : Int) < n := by omega
  have cj : w.cell? ⟨g, 0, none⟩ = some (.slice (some ⟨b, off, none⟩) n c) := (hK.cell 0).trans hj
  have hq0 := hq _ (List.mem_of_getElem? he0)
  obtain ⟨p, v⟩ := e0
  have c0 : w.cell? ⟨b, off + k * 2, none⟩ = some (.int .i64 p) := hcell 0 _ rfl
  have c1 : w.cell? ⟨b, off + k * 2 + 1, none⟩ = some (.int .i64 v) := hcell 1 _ rfl
  simp only [sigR, inR, Bool.and_eq_true, decide_eq_true_eq] at hq0
  obtain ⟨⟨hp0, hp1⟩, hv0, hv1⟩ := hq0
  have hz1 := kindsB_le hp1
  have hz2 := kindsB_le (n := v) (by omega)
  have C1 := hide (fun w => iKinds p w hp0 hp1)
  have C2 := hide (fun w => iKinds v w hv0 (by omega))
  obtain ⟨R, hR⟩ : ∃ R, sigB (p, v) = R := ⟨_, rfl⟩
  rw [hR]
  have HF : Hid (R = 96 :: (kindsB p ++ kindsB v)) := hide hR.symm
  obtain ⟨P1, hP1⟩ : ∃ P1, kindsB p = P1 := ⟨_, rfl⟩
  obtain ⟨P2, hP2⟩ : ∃ P2, kindsB v = P2 := ⟨_, rfl⟩
  rw [hP1] at C1 HF hz1
  rw [hP2] at C2 HF hz2
  have H0 := hide (CQ.mk0 (L := []) (Below.refl w.heap.size w) hK (own_nilB w 5 1) (by decide))
  have HBY := hide (show ∀ (W : World) (base : Nat) (A : Option Addr) (n d : Nat), Ow W base 5 1 A n d (by8 [96] ++ by8 P1) → Ow W base 5 1 A n d (by8 ([96] ++ P1)) from fun W base A n d h => by rw [show by8 ([96] ++ P1) = by8 [96] ++ by8 P1 by simp [by8]]; exact h)
  have HC : Hid (((#[.int .u8 96] : Array Value)).toList = by8 [96] ∧ ([96] : List Int).length = 1) := hide ⟨rfl, rfl⟩
  have HS := hide (show ∀ W, Below w.heap.size w W → W.cell? ⟨g, 0, none⟩ = some (.slice (some ⟨b, off, none⟩) n c) ∧ W.cell? ⟨b, off + k * 2, none⟩ = some (.int .i64 p) ∧ W.cell? ⟨b, off + k * 2 + 1, none⟩ = some (.int .i64 v) from fun W h => ⟨(h.cell hK.lt).trans cj, (h.cell hbb).trans c0, (h.cell hbb).trans c1⟩)
  clear hP1 hP2 hR he0 he1 hx hcell hr hK hj hq cj c0 c1 hbb
  go_enter Tryz.func43, Tryz.ntmps43
  go_upto_region 1 with fail
  go_region_held2 (fun W => W.cell? ⟨g, 0, none⟩ = some (.slice (some ⟨b, off, none⟩) n c) ∧ W.cell? ⟨b, off + k * 2, none⟩ = some (.int .i64 p) ∧ W.cell? ⟨b, off + k * 2 + 1, none⟩ = some (.int .i64 v)) (first | with_reducible exact HS.out _ H4.out.ch.bel | with_reducible exact HS.out _ (H4.out.al _).ch.bel | with_reducible exact HS.out _ ((H4.out.al _).al _).ch.bel | with_reducible exact HS.out _ H3.out.ch.bel | with_reducible exact HS.out _ (H3.out.al _).ch.bel | with_reducible exact HS.out _ ((H3.out.al _).al _).ch.bel | with_reducible exact HS.out _ H1b.out.ch.bel | with_reducible exact HS.out _ (H1b.out.al _).ch.bel | with_reducible exact HS.out _ ((H1b.out.al _).al _).ch.bel | with_reducible exact HS.out _ H2.out.ch.bel | with_reducible exact HS.out _ (H2.out.al _).ch.bel | with_reducible exact HS.out _ ((H2.out.al _).al _).ch.bel | with_reducible exact HS.out _ H1.out.ch.bel | with_reducible exact HS.out _ (H1.out.al _).ch.bel | with_reducible exact HS.out _ ((H1.out.al _).al _).ch.bel | with_reducible exact HS.out _ (CQ.drew H0.out).ch.bel | with_reducible exact HS.out _ (CQ.drew (H0.out.al _)).ch.bel | with_reducible exact HS.out _ (CQ.drew ((H0.out.al _).al _)).ch.bel | fail "none") (first
    | (have h0 := H3
       refine stepA (xs := by8 ([96] ++ P1)) (ys := by8 P2) rfl _ _ rfl rfl rfl E8 (by first | with_reducible exact H3.out.ch.own | with_reducible exact (H3.out.al _).ch.own | with_reducible exact ((H3.out.al _).al _).ch.own | fail "none") (by first | with_reducible exact HK2.out | with_reducible exact (HK2.out.bel ((Below.refl _ _).alloc (Nat.le_refl _) _)) | with_reducible exact HK2.out | fail "none") (one8all _) (by omega) (by first | with_reducible exact H3.out.ch.bel.size | with_reducible exact (H3.out.al _).ch.bel.size | with_reducible exact ((H3.out.al _).al _).ch.bel.size | fail "none") ?_
       intro A4 d4 w4 hoj hgj hlj
       first | (with_reducible have H4 := hide (H3.out.app (M := P2) hoj hgj hlj)) | (with_reducible have H4 := hide ((H3.out.al _).app (M := P2) hoj hgj hlj)) | (with_reducible have H4 := hide (((H3.out.al _).al _).app (M := P2) hoj hgj hlj)) | fail "none"
       clear hoj hgj hlj)
    | (have h0 := H2
       go_at_call 44
       refine (C2.out _).mono ?_
       rintro e w3 ⟨A3, d3, rfl, hoj, hbj⟩
       first | (with_reducible have H3 := hide (H2.out.keep hbj)) | (with_reducible have H3 := hide ((H2.out.al _).keep hbj)) | (with_reducible have H3 := hide (((H2.out.al _).al _).keep hbj)) | fail "none"
       have HK2 := hide hoj.rd
       clear hoj hbj)
    | (have h0 := H1b
       refine stepA (xs := by8 [96]) (ys := by8 P1) rfl _ _ rfl rfl rfl E8 (by first | with_reducible exact H1b.out.owq (by first | (simp; done) | (simp; omega)) HC (by have hq0 := H1b.out.ch.bel.size; first | (simp; done) | (simp; omega) | omega) (by omega) | with_reducible exact (H1b.out.al _).owq (by first | (simp; done) | (simp; omega)) HC (by have hq0 := H1b.out.ch.bel.size; first | (simp; done) | (simp; omega) | omega) (by omega) | with_reducible exact ((H1b.out.al _).al _).owq (by first | (simp; done) | (simp; omega)) HC (by have hq0 := H1b.out.ch.bel.size; first | (simp; done) | (simp; omega) | omega) (by omega) | fail "none") (by first | with_reducible exact HK1b.out | with_reducible exact HK1b.out.bel ((Below.refl _ _).alloc (Nat.le_refl _) _) | fail "none") (one8all _) (by omega) (by first | with_reducible exact H1b.out.ch.bel.size | with_reducible exact (H1b.out.al _).ch.bel.size | with_reducible exact ((H1b.out.al _).al _).ch.bel.size | fail "none") ?_
       intro A2 d2 w2 hoj hgj hlj
       first | (with_reducible have H3 := hide (CQ.swap H1b.out (L := P2) (q := _) (c := #[.int .u8 96]) (by first | (simp; done) | (simp; omega)) (by have hq0 := H1b.out.ch.bel.size; first | (simp; done) | (simp; omega) | omega) (HBY.out _ _ _ _ _ hoj) hgj)) | (with_reducible have H3 := hide (CQ.swap (H1b.out.al _) (L := P2) (q := _) (c := #[.int .u8 96]) (by first | (simp; done) | (simp; omega)) (by have hq0 := H1b.out.ch.bel.size; first | (simp; done) | (simp; omega) | omega) (HBY.out _ _ _ _ _ hoj) hgj)) | (with_reducible have H3 := hide (CQ.swap ((H1b.out.al _).al _) (L := P2) (q := _) (c := #[.int .u8 96]) (by first | (simp; done) | (simp; omega)) (by have hq0 := H1b.out.ch.bel.size; first | (simp; done) | (simp; omega) | omega) (HBY.out _ _ _ _ _ hoj) hgj)) | fail "none"
       first | (with_reducible have HK2 := hide ((Ow.kept H1b.out.ch.own hgj (.inr (fun e => (H1b.out.q _ (by first | (simp; done) | (simp; omega))).2 e))).rd)) | (with_reducible have HK2 := hide ((Ow.kept (H1b.out.al _).ch.own hgj (.inr (fun e => ((H1b.out.al _).q _ (by first | (simp; done) | (simp; omega))).2 e))).rd)) | (with_reducible have HK2 := hide ((Ow.kept ((H1b.out.al _).al _).ch.own hgj (.inr (fun e => (((H1b.out.al _).al _).q _ (by first | (simp; done) | (simp; omega))).2 e))).rd)) | fail "none"
       clear hoj hgj hlj)
    | (have h0 := H1
       go_at_call 44
       refine (C2.out _).mono ?_
       rintro e w3 ⟨A3, d3, rfl, hoj, hbj⟩
       first | (with_reducible have H1b := hide (H1.out.call hoj hbj)) | (with_reducible have H1b := hide ((H1.out.al _).call hoj hbj)) | (with_reducible have H1b := hide (((H1.out.al _).al _).call hoj hbj)) | fail "none"
       first | (with_reducible have HK1b := hide (H1.out.ch.own.rd.bel hbj)) | (with_reducible have HK1b := hide ((H1.out.al _).ch.own.rd.bel hbj)) | (with_reducible have HK1b := hide (((H1.out.al _).al _).ch.own.rd.bel hbj)) | fail "none"
       clear hoj hbj)
    | (have h0 := H1
       refine stepA (xs := by8 [96]) (ys := by8 P1) rfl _ _ rfl rfl rfl E8 (by first | with_reducible exact H1.out.owq (by first | (simp; done) | (simp; omega)) HC (by have hq0 := H1.out.ch.bel.size; first | (simp; done) | (simp; omega) | omega) (by omega) | with_reducible exact (H1.out.al _).owq (by first | (simp; done) | (simp; omega)) HC (by have hq0 := H1.out.ch.bel.size; first | (simp; done) | (simp; omega) | omega) (by omega) | with_reducible exact ((H1.out.al _).al _).owq (by first | (simp; done) | (simp; omega)) HC (by have hq0 := H1.out.ch.bel.size; first | (simp; done) | (simp; omega) | omega) (by omega) | fail "none") (by first | with_reducible exact H1.out.ch.own.rd | with_reducible exact (H1.out.al _).ch.own.rd | with_reducible exact ((H1.out.al _).al _).ch.own.rd | fail "none") (one8all _) (by omega) (by first | with_reducible exact H1.out.ch.bel.size | with_reducible exact (H1.out.al _).ch.bel.size | with_reducible exact ((H1.out.al _).al _).ch.bel.size | fail "none") ?_
       intro A2 d2 w2 hoj hgj hlj
       first | (with_reducible have H2 := hide (CQ.swap H1.out (L := P1) (q := _) (c := #[.int .u8 96]) (by first | (simp; done) | (simp; omega)) (by have hq0 := H1.out.ch.bel.size; first | (simp; done) | (simp; omega) | omega) (HBY.out _ _ _ _ _ hoj) hgj)) | (with_reducible have H2 := hide (CQ.swap (H1.out.al _) (L := P1) (q := _) (c := #[.int .u8 96]) (by first | (simp; done) | (simp; omega)) (by have hq0 := H1.out.ch.bel.size; first | (simp; done) | (simp; omega) | omega) (HBY.out _ _ _ _ _ hoj) hgj)) | (with_reducible have H2 := hide (CQ.swap ((H1.out.al _).al _) (L := P1) (q := _) (c := #[.int .u8 96]) (by first | (simp; done) | (simp; omega)) (by have hq0 := H1.out.ch.bel.size; first | (simp; done) | (simp; omega) | omega) (HBY.out _ _ _ _ _ hoj) hgj)) | fail "none"
       clear hoj hgj hlj)
    | (go_at_call 44
       refine (C1.out _).mono ?_
       rintro e w1 ⟨A1, d1, rfl, hoj, hbj⟩
       first | (with_reducible have H1 := hide ((CQ.drew H0.out).call hoj hbj)) | (with_reducible have H1 := hide ((CQ.drew (H0.out.al _)).call hoj hbj)) | (with_reducible have H1 := hide ((CQ.drew ((H0.out.al _).al _)).call hoj hbj)) | fail "none"
       clear hoj hbj)
    | fail "no arm")
  all_goals
    clear HS
    go_wp2_with fail
    go_ret
    have e1 : 1 + P1.length + P2.length = R.length := by rw [HF.out]; simp; omega
    have h3 := H4.out.ch.own
    rw [e1] at h3
    refine ⟨A4, d4, by rw [← e1]; rfl, ?_, H4.out.ch.bel⟩
    rw [HF.out] at h3 ⊢
    simpa using h3
end Go.Proofs.YtiinkfejdnfonaaGreatDoor.Mb
