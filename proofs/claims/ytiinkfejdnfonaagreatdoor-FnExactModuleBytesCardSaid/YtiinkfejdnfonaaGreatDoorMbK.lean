/- The program's closures that write one part each: a contract each. -/
import Derived.Test.YtiinkfejdnfonaaGreatDoorMbW
namespace Go.Proofs.YtiinkfejdnfonaaGreatDoor.Mb
open Go.RowKit Go.Proofs.YtiinkfejdnfonaaGreatDoor.Num Go.Proofs.YtiinkfejdnfonaaGreatDoor.NumC Go.Proofs.YtiinkfejdnfonaaGreatDoor.Mem Go.Proofs.YtiinkfejdnfonaaGreatDoor.Shape Go.Proofs.YtiinkfejdnfonaaGreatDoor.Utf Go.Proofs.YtiinkfejdnfonaaGreatDoor.Ops Go.Proofs.YtiinkfejdnfonaaGreatDoor.Leb Go.Proofs.YtiinkfejdnfonaaGreatDoor.Mo Go.Proofs.YtiinkfejdnfonaaGreatDoor.Bb Go.Proofs.YtiinkfejdnfonaaGreatDoor.NameC Go.Proofs.YtiinkfejdnfonaaGreatDoor.PutC
set_option linter.unusedVariables false
/-- a literal of the statement's own becomes the row -/
theorem CQ.swap {w W W' : World} {r N d N' d' q : Nat} {cs c : Array Value} {t : TypeId} {A A' : Option Addr} {L L' : List Int} {Q : List (Nat × Array Value)} (h : CQ w r cs t A N d L Q W) (hq : (q, c) ∈ Q) (hwq : w.heap.size ≤ q)
    (ho : Ow W' w.heap.size 5 1 A' N' d' (by8 L')) (hg : W.grownBy W' (blk (some ⟨q, 0, none⟩))) : CQ w r cs t A' N' d' L' [] W' := by
  have hne : q ≠ r := fun e => by
    subst e
    have h1 := (h.q _ hq).1
    have h2 := h.ch.box
    unfold Blk at h1 h2
    rw [h2] at h1
    injection h1 with h1
    injection h1 with _ h3
    exact h.ch.ty h3
  exact CQ.mk0 (bel_grown h.ch.bel hg h.ch.bel.size (fun g hg => by injection hg with hg; subst hg; exact hwq)) (bgrown h.ch.box hg (fun e => by injection e with e; exact hne e)) ho h.ch.ty
set_option maxRecDepth 100000 in
set_option maxHeartbeats 4000000 in
theorem iC4 (g : Nat) (cs : Array Value) (A : Option Addr) (n c : Nat) (l : List FV) (w : World) (hr : Rd w w.heap.size 3 A n (fl funC l)) (hK : Blk w g cs 41) (hj : cs[2]? = some (.slice A n c))
    (k : Nat) (x : List Int) (hx : (l.map fsV)[k]? = some x) : Calls Tryz.prog 48 #[.int .i64 k, .pointer (some ⟨g, 0, none⟩)] w (Fresh 5 1 x.length (by8 x) w) := by
  have hl := rd_len funL (by omega) hr
  rw [List.getElem?_map] at hx
  obtain ⟨e0, he0, rfl⟩ := Option.map_eq_some_iff.1 hx
  have hkl : k < n := by have := (List.getElem?_eq_some_iff.1 he0).1; omega
  obtain ⟨b, off, e1, rfl, he1, hbb, hcell⟩ := rd_get (wr := w) funL (by omega) hr k hkl (fun p hp => rfl)
  rw [he0] at he1
  obtain rfl : e0 = e1 := Option.some.inj he1
  have hi0 : (0 : Int) ≤ k := by omega
  have hi1 : (k : Int) < n := by omega
  have cj : w.cell? ⟨g, 2, none⟩ = some (.slice (some ⟨b, off, none⟩) n c) := (hK.cell 2).trans hj
  obtain ⟨sg, lo, ⟨B, m, q⟩, bd⟩ := e0
  have c0 : w.cell? ⟨b, off + k * 3, none⟩ = some (.int .i64 sg) := hcell 0 _ rfl
  have C1 := hide (show ∀ w, Calls Tryz.prog 46 #[.slice none 0 0, .int .i64 sg] w (Fresh 5 1 (fsV ⟨sg, lo, (B, m, q), bd⟩).length (by8 (fsV ⟨sg, lo, (B, m, q), bd⟩)) w) from nil_put (fun A n' c bs w hr hn => iPutU A n' c bs sg w hr hn))
  obtain ⟨R, hR⟩ : ∃ R, fsV ⟨sg, lo, (B, m, q), bd⟩ = R := ⟨_, rfl⟩
  rw [hR] at C1 ⊢
  clear hR he0 he1 hx hcell hr hK hj
  go_enter Tryz.func48, Tryz.ntmps48
  go_wp2_with fail
  refine (C1.out w).mono ?_
  rintro e w1 ⟨A1, d1, rfl, ho, hb⟩
  have HO := hide ho
  have HB := hide hb
  clear ho hb
  go_wp2_with fail
  go_ret
  exact ⟨A1, d1, rfl, HO.out, HB.out⟩
set_option maxRecDepth 100000 in
set_option maxHeartbeats 4000000 in
theorem iC5 (g : Nat) (cs : Array Value) (A : Option Addr) (n c : Nat) (l : List Glo2) (w : World) (hr : Rd w w.heap.size 2 A n (fl gloC l)) (hK : Blk w g cs 41) (hj : cs[5]? = some (.slice A n c))
    (k : Nat) (x : List Int) (hx : (l.map gloB)[k]? = some x) : Calls Tryz.prog 50 #[.int .i64 k, .pointer (some ⟨g, 0, none⟩)] w (Fresh 5 1 x.length (by8 x) w) := by
  have hl := rd_len gloL (by omega) hr
  rw [List.getElem?_map] at hx
  obtain ⟨e0, he0, rfl⟩ := Option.map_eq_some_iff.1 hx
  have hkl : k < n := by have := (List.getElem?_eq_some_iff.1 he0).1; omega
  obtain ⟨b, off, e1, rfl, he1, hbb, hcell⟩ := rd_get (wr := w) gloL (by omega) hr k hkl (fun p hp => rfl)
  rw [he0] at he1
  obtain rfl : e0 = e1 := Option.some.inj he1
  have hi0 : (0 : Int) ≤ k := by omega
  have hi1 : (k : Int) < n := by omega
  have cj : w.cell? ⟨g, 5, none⟩ = some (.slice (some ⟨b, off, none⟩) n c) := (hK.cell 5).trans hj
  obtain ⟨mu, i⟩ := e0
  have c0 : w.cell? ⟨b, off + k * 2, none⟩ = some (.bool mu) := hcell 0 _ rfl
  have c1 : w.cell? ⟨b, off + k * 2 + 1, none⟩ = some (.int .i64 i) := hcell 1 _ rfl
  have C1 := hide (show Calls Tryz.prog 51 #[.agg #[.bool mu, .int .i64 i]] w (Fresh 5 1 (gloB (mu, i)).length (by8 (gloB (mu, i))) w) from iGlobal mu i w)
  obtain ⟨R, hR⟩ : ∃ R, gloB (mu, i) = R := ⟨_, rfl⟩
  rw [hR] at C1 ⊢
  clear hR he0 he1 hx hcell hr hK hj
  go_enter Tryz.func50, Tryz.ntmps50
  go_wp2_with fail
  refine C1.out.mono ?_
  rintro e w1 ⟨A1, d1, rfl, ho, hb⟩
  have HO := hide ho
  have HB := hide hb
  clear ho hb
  go_wp2_with fail
  go_ret
  exact ⟨A1, d1, rfl, HO.out, HB.out⟩
set_option maxRecDepth 100000 in
set_option maxHeartbeats 4000000 in
theorem iC7 (g : Nat) (cs : Array Value) (A : Option Addr) (n c : Nat) (l : List FV) (w : World) (hr : Rd w w.heap.size 3 A n (fl funC l)) (hK : Blk w g cs 41) (hj : cs[2]? = some (.slice A n c)) (S : Nat) (hd : ∀ x ∈ l, Rd w w.heap.size 3 x.hd.1 x.hd.2.1 (insC x.body)) (hq : ∀ x ∈ l, funR S x.pl = true)
    (k : Nat) (x : List Int) (hx : (l.map fnV)[k]? = some x) : Calls Tryz.prog 53 #[.int .i64 k, .pointer (some ⟨g, 0, none⟩)] w (Fresh 5 1 x.length (by8 x) w) := by
  have hl := rd_len funL (by omega) hr
  rw [List.getElem?_map] at hx
  obtain ⟨e0, he0, rfl⟩ := Option.map_eq_some_iff.1 hx
  have hkl : k < n := by have := (List.getElem?_eq_some_iff.1 he0).1; omega
  obtain ⟨b, off, e1, rfl, he1, hbb, hcell⟩ := rd_get (wr := w) funL (by omega) hr k hkl (fun p hp => rfl)
  rw [he0] at he1
  obtain rfl : e0 = e1 := Option.some.inj he1
  have hi0 : (0 : Int) ≤ k := by omega
  have hi1 : (k : Int) < n := by omega
  have cj : w.cell? ⟨g, 2, none⟩ = some (.slice (some ⟨b, off, none⟩) n c) := (hK.cell 2).trans hj
  have hd0 := hd _ (List.mem_of_getElem? he0)
  have hq0 := hq _ (List.mem_of_getElem? he0)
  obtain ⟨sg, lo, ⟨B, m, q⟩, bd⟩ := e0
  have hm : (m : Int) ≤ 1500 := by
    have hl2 := rd_ins hd0
    simp only [funR, bodyR, FV.pl, Bool.and_eq_true] at hq0
    have := of_decide_eq_true hq0.2.2.2.1
    simp only [] at hl2
    omega
  have c0 : w.cell? ⟨b, off + k * 3, none⟩ = some (.int .i64 sg) := hcell 0 _ rfl
  have c1 : w.cell? ⟨b, off + k * 3 + 1, none⟩ = some (.int .i64 lo) := hcell 1 _ rfl
  have c2 : w.cell? ⟨b, off + k * 3 + 2, none⟩ = some (.slice B m q) := hcell 2 _ rfl
  have C1 := hide (show Calls Tryz.prog 54 #[.agg #[.int .i64 sg, .int .i64 lo, .slice B m q]] w (Fresh 5 1 (fnV ⟨sg, lo, (B, m, q), bd⟩).length (by8 (fnV ⟨sg, lo, (B, m, q), bd⟩)) w) from iFunc sg lo B m q bd w hd0 hm)
  obtain ⟨R, hR⟩ : ∃ R, fnV ⟨sg, lo, (B, m, q), bd⟩ = R := ⟨_, rfl⟩
  rw [hR] at C1 ⊢
  clear hR he0 he1 hx hcell hr hK hj hd hq hd0 hq0 hm
  go_enter Tryz.func53, Tryz.ntmps53
  go_wp2_with fail
  refine C1.out.mono ?_
  rintro e w1 ⟨A1, d1, rfl, ho, hb⟩
  have HO := hide ho
  have HB := hide hb
  clear ho hb
  go_wp2_with fail
  go_ret
  exact ⟨A1, d1, rfl, HO.out, HB.out⟩
set_option maxRecDepth 100000 in
set_option maxHeartbeats 4000000 in
theorem iC8 (g : Nat) (cs : Array Value) (A : Option Addr) (n c : Nat) (l : List DV) (w : World) (hr : Rd w w.heap.size 2 A n (fl datC l)) (hK : Blk w g cs 41) (hj : cs[7]? = some (.slice A n c)) (hd : ∀ x ∈ l, Rd w w.heap.size 1 x.hd.1 x.hd.2.1 (by8 x.bytes)) (hq : ∀ x ∈ l, datR x.pl = true)
    (k : Nat) (x : List Int) (hx : (l.map datV)[k]? = some x) : Calls Tryz.prog 55 #[.int .i64 k, .pointer (some ⟨g, 0, none⟩)] w (Fresh 5 1 x.length (by8 x) w) := by
  have hl := rd_len datL (by omega) hr
  rw [List.getElem?_map] at hx
  obtain ⟨e0, he0, rfl⟩ := Option.map_eq_some_iff.1 hx
  have hkl : k < n := by have := (List.getElem?_eq_some_iff.1 he0).1; omega
  obtain ⟨b, off, e1, rfl, he1, hbb, hcell⟩ := rd_get (wr := w) datL (by omega) hr k hkl (fun p hp => rfl)
  rw [he0] at he1
  obtain rfl : e0 = e1 := Option.some.inj he1
  have hi0 : (0 : Int) ≤ k := by omega
  have hi1 : (k : Int) < n := by omega
  have cj : w.cell? ⟨g, 7, none⟩ = some (.slice (some ⟨b, off, none⟩) n c) := (hK.cell 7).trans hj
  have hd0 := hd _ (List.mem_of_getElem? he0)
  have hq0 := hq _ (List.mem_of_getElem? he0)
  obtain ⟨at0, ⟨B, m, q⟩, bs⟩ := e0
  have hm : (m : Int) ≤ 2000 := by
    have hl2 := rd_by8 hd0
    simp only [datR, DV.pl, Bool.and_eq_true] at hq0
    have := of_decide_eq_true hq0.2
    simp only [] at hl2
    omega
  have c0 : w.cell? ⟨b, off + k * 2, none⟩ = some (.int .i64 at0) := hcell 0 _ rfl
  have c1 : w.cell? ⟨b, off + k * 2 + 1, none⟩ = some (.slice B m q) := hcell 1 _ rfl
  have C1 := hide (show Calls Tryz.prog 56 #[.agg #[.int .i64 at0, .slice B m q]] w (Fresh 5 1 (datV ⟨at0, (B, m, q), bs⟩).length (by8 (datV ⟨at0, (B, m, q), bs⟩)) w) from iData at0 B m q bs w hd0 hm)
  obtain ⟨R, hR⟩ : ∃ R, datV ⟨at0, (B, m, q), bs⟩ = R := ⟨_, rfl⟩
  rw [hR] at C1 ⊢
  clear hR he0 he1 hx hcell hr hK hj hd hq hd0 hq0 hm
  go_enter Tryz.func55, Tryz.ntmps55
  go_wp2_with fail
  refine C1.out.mono ?_
  rintro e w1 ⟨A1, d1, rfl, ho, hb⟩
  have HO := hide ho
  have HB := hide hb
  clear ho hb
  go_wp2_with fail
  go_ret
  exact ⟨A1, d1, rfl, HO.out, HB.out⟩
set_option maxRecDepth 100000 in
set_option maxHeartbeats 4000000 in
theorem iC3 (g : Nat) (cs : Array Value) (A : Option Addr) (n c : Nat) (l : List Imp3) (w : World) (hr : Rd w w.heap.size 3 A n (fl impC l)) (hK : Blk w g cs 41) (hj : cs[1]? = some (.slice A n c)) (S : Nat) (hq : ∀ x ∈ l, impR S x = true)
    (k : Nat) (x : List Int) (hx : (l.map impB)[k]? = some x) : Calls Tryz.prog 45 #[.int .i64 k, .pointer (some ⟨g, 0, none⟩)] w (Fresh 5 1 x.length (by8 x) w) := by
  have hl := rd_len impL (by omega) hr
  rw [List.getElem?_map] at hx
  obtain ⟨e0, he0, rfl⟩ := Option.map_eq_some_iff.1 hx
  have hkl : k < n := by have := (List.getElem?_eq_some_iff.1 he0).1; omega
  obtain ⟨b, off, e1, rfl, he1, hbb, hcell⟩ := rd_get (wr := w) impL (by omega) hr k hkl (fun p hp => rfl)
  rw [he0] at he1
  obtain rfl : e0 = e1 := Option.some.inj he1
  have hi0 : (0 : Int) ≤ k := by omega
  have hi1 : (k : Int) < n := by omega
  have cj : w.cell? ⟨g, 1, none⟩ = some (.slice (some ⟨b, off, none⟩) n c) := (hK.cell 1).trans hj
  have hq0 := hq _ (List.mem_of_getElem? he0)
  obtain ⟨a, c0s, v⟩ := e0
  have c0 : w.cell? ⟨b, off + k * 3, none⟩ = some (.string a) := hcell 0 _ rfl
  have c1 : w.cell? ⟨b, off + k * 3 + 1, none⟩ = some (.string c0s) := hcell 1 _ rfl
  have c2 : w.cell? ⟨b, off + k * 3 + 2, none⟩ = some (.int .i64 v) := hcell 2 _ rfl
  obtain ⟨R, hR⟩ : ∃ R, impB (a, c0s, v) = R := ⟨_, rfl⟩
  rw [hR]
  simp only [impR, Bool.and_eq_true] at hq0
  have hz1 := nameB_le hq0.2.1
  have hz2 := nameB_le hq0.2.2
  have hz3 := u_le v
  have hs1 : a.size ≤ 4194304 := by have := hq0.2.1; simp only [nameR, Bool.and_eq_true, decide_eq_true_eq] at this; omega
  have hs2 : c0s.size ≤ 4194304 := by have := hq0.2.2; simp only [nameR, Bool.and_eq_true, decide_eq_true_eq] at this; omega
  have C1 := hide (show ∀ w, Calls Tryz.prog 47 #[.slice none 0 0, .string a] w (Fresh 5 1 (nameB a).length (by8 (nameB a)) w) from fun w => by have h := iName_b none 0 0 [] a w Rd.nil (by omega) hs1; rwa [Nat.zero_add, List.nil_append] at h)
  have C2 := hide (fun A n c bs w hr hn => iName_b A n c bs c0s w hr hn hs2)
  have C3 := hide (show ∀ A n c bs w, Rd w w.heap.size 1 A n (by8 bs) → n ≤ 70368744177664 → Calls Tryz.prog 46 #[.slice A n c, .int .i64 v] w (Fresh 5 1 (n + (u v).length) (by8 (bs ++ u v)) w) from fun A n c bs w hr hn => iPutU A n c bs v w hr hn)
  have HF : Hid (R = nameB a ++ (nameB c0s ++ 0 :: u v)) := hide hR.symm
  obtain ⟨P1, hP1⟩ : ∃ P1, nameB a = P1 := ⟨_, rfl⟩
  obtain ⟨P2, hP2⟩ : ∃ P2, nameB c0s = P2 := ⟨_, rfl⟩
  obtain ⟨P3, hP3⟩ : ∃ P3, u v = P3 := ⟨_, rfl⟩
  rw [hP1] at C1 HF hz1
  rw [hP2] at C2 HF hz2
  rw [hP3] at C3 HF hz3
  clear hP1 hP2 hP3 hs1 hs2
  obtain ⟨r, hrr⟩ : ∃ r, w.heap.size = r := ⟨_, rfl⟩
  have H0 := hide (CQ.mk0 (L := []) ((Below.refl w.heap.size w).alloc (Nat.le_refl _) (.cells #[.string a, .string c0s, .int .i64 v] 79)) (Blk.new w #[.string a, .string c0s, .int .i64 v] 79) (World.ownsRow.alloc (own_nilB w 5 1) _) (by decide))
  have HS := hide (show ∀ W, Blk W r #[.string a, .string c0s, .int .i64 v] 79 → W.cell? ⟨r, 0, none⟩ = some (.string a) ∧ W.cell? ⟨r, 1, none⟩ = some (.string c0s) ∧ W.cell? ⟨r, 2, none⟩ = some (.int .i64 v) from fun W h => ⟨h.cell 0, h.cell 1, h.cell 2⟩)
  rw [hrr] at H0
  clear hR he0 he1 hx hcell hr hK hj hq hq0
  have HC3 : Hid (((#[.int .u8 0] : Array Value)).toList = by8 [0] ∧ ([0] : List Int).length = 1) := hide ⟨rfl, rfl⟩
  go_enter Tryz.func45, Tryz.ntmps45
  go_upto_region 2 with fail
  go_region_held2 (fun W => W.cell? ⟨r, 0, none⟩ = some (.string a) ∧ W.cell? ⟨r, 1, none⟩ = some (.string c0s) ∧ W.cell? ⟨r, 2, none⟩ = some (.int .i64 v)) (first | with_reducible exact HS.out _ H4.out.ch.box | with_reducible exact HS.out _ (H4.out.al _).ch.box | with_reducible exact HS.out _ ((H4.out.al _).al _).ch.box | with_reducible exact HS.out _ H3.out.ch.box | with_reducible exact HS.out _ (H3.out.al _).ch.box | with_reducible exact HS.out _ ((H3.out.al _).al _).ch.box | with_reducible exact HS.out _ H2.out.ch.box | with_reducible exact HS.out _ (H2.out.al _).ch.box | with_reducible exact HS.out _ ((H2.out.al _).al _).ch.box | with_reducible exact HS.out _ H1.out.ch.box | with_reducible exact HS.out _ (H1.out.al _).ch.box | with_reducible exact HS.out _ ((H1.out.al _).al _).ch.box | with_reducible exact HS.out _ (CQ.drew H0.out).ch.box | with_reducible exact HS.out _ (CQ.drew (H0.out.al _)).ch.box | with_reducible exact HS.out _ (CQ.drew ((H0.out.al _).al _)).ch.box) (first
      | (have h0 := H3
         go_at_call 46
         refine (C3.out A3 (P1.length + P2.length + 1) d3 ((P1 ++ P2) ++ [0]) _ (by first | with_reducible exact H3.out.ch.own.rd | with_reducible exact (H3.out.al _).ch.own.rd | with_reducible exact ((H3.out.al _).al _).ch.own.rd | fail "none") (by omega)).mono ?_
         rintro e w4 ⟨A4, d4, rfl, hoj, hbj⟩
         first | (with_reducible have H4 := hide (H3.out.call hoj hbj)) | (with_reducible have H4 := hide ((H3.out.al _).call hoj hbj)) | (with_reducible have H4 := hide (((H3.out.al _).al _).call hoj hbj)) | fail "none"
         clear hoj hbj)
      | (have h0 := H2
         refine stepA (xs := by8 (P1 ++ P2)) (ys := by8 [0]) rfl _ _ rfl rfl rfl E8 (by first | with_reducible exact H2.out.ch.own | with_reducible exact (H2.out.al _).ch.own | with_reducible exact ((H2.out.al _).al _).ch.own | fail "none") (by first | with_reducible exact H2.out.rdq (by first | (simp; done) | (simp; omega)) HC3 | with_reducible exact (H2.out.al _).rdq (by first | (simp; done) | (simp; omega)) HC3 | with_reducible exact ((H2.out.al _).al _).rdq (by first | (simp; done) | (simp; omega)) HC3 | fail "none") (one8all _) (by omega) (by first | with_reducible exact H2.out.ch.bel.size | with_reducible exact (H2.out.al _).ch.bel.size | with_reducible exact ((H2.out.al _).al _).ch.bel.size | fail "none") ?_
         intro A3 d3 w3 hoj hgj hlj
         first | (with_reducible have H3 := hide (H2.out.app (M := [0]) hoj hgj hlj)) | (with_reducible have H3 := hide ((H2.out.al _).app (M := [0]) hoj hgj hlj)) | (with_reducible have H3 := hide (((H2.out.al _).al _).app (M := [0]) hoj hgj hlj)) | fail "none"
         clear hoj hgj hlj)
      | (have h0 := H1
         go_at_call 47
         refine (C2.out A1 (P1.length) d1 P1 _ (by first | with_reducible exact H1.out.ch.own.rd | with_reducible exact (H1.out.al _).ch.own.rd | with_reducible exact ((H1.out.al _).al _).ch.own.rd | fail "none") (by omega)).mono ?_
         rintro e w2 ⟨A2, d2, rfl, hoj, hbj⟩
         first | (with_reducible have H2 := hide (H1.out.call hoj hbj)) | (with_reducible have H2 := hide ((H1.out.al _).call hoj hbj)) | (with_reducible have H2 := hide (((H1.out.al _).al _).call hoj hbj)) | fail "none"
         clear hoj hbj)
      | (have h0 := H0
         go_at_call 47
         refine (C1.out _).mono ?_
         rintro e w1 ⟨A1, d1, rfl, hoj, hbj⟩
         first | (with_reducible have H1 := hide ((CQ.drew H0.out).call hoj hbj)) | (with_reducible have H1 := hide ((CQ.drew (H0.out.al _)).call hoj hbj)) | (with_reducible have H1 := hide ((CQ.drew ((H0.out.al _).al _)).call hoj hbj)) | fail "none"
         clear hoj hbj)
      | fail "no arm")
  all_goals
    clear HS
    go_wp2_with fail
    go_ret
    have e1 : P1.length + P2.length + 1 + P3.length = R.length := by rw [HF.out]; simp; omega
    have h3 := H4.out.ch.own
    rw [e1] at h3
    refine ⟨A4, d4, by rw [← e1]; rfl, ?_, H4.out.ch.bel⟩
    rw [HF.out] at h3 ⊢
    simpa using h3
set_option maxRecDepth 100000 in
set_option maxHeartbeats 4000000 in
theorem iC6 (g : Nat) (cs : Array Value) (A : Option Addr) (n c : Nat) (l : List Exp3) (w : World) (hr : Rd w w.heap.size 3 A n (fl expC l)) (hK : Blk w g cs 41) (hj : cs[6]? = some (.slice A n c)) (hq : ∀ x ∈ l, expR x = true)
    (k : Nat) (x : List Int) (hx : (l.map expB)[k]? = some x) : Calls Tryz.prog 52 #[.int .i64 k, .pointer (some ⟨g, 0, none⟩)] w (Fresh 5 1 x.length (by8 x) w) := by
  have hl := rd_len expL (by omega) hr
  rw [List.getElem?_map] at hx
  obtain ⟨e0, he0, rfl⟩ := Option.map_eq_some_iff.1 hx
  have hkl : k < n := by have := (List.getElem?_eq_some_iff.1 he0).1; omega
  obtain ⟨b, off, e1, rfl, he1, hbb, hcell⟩ := rd_get (wr := w) expL (by omega) hr k hkl (fun p hp => rfl)
  rw [he0] at he1
  obtain rfl : e0 = e1 := Option.some.inj he1
  have hi0 : (0 : Int) ≤ k := by omega
  have hi1 : (k : Int) < n := by omega
  have cj : w.cell? ⟨g, 6, none⟩ = some (.slice (some ⟨b, off, none⟩) n c) := (hK.cell 6).trans hj
  have hq0 := hq _ (List.mem_of_getElem? he0)
  obtain ⟨a, q, i⟩ := e0
  have c0 : w.cell? ⟨b, off + k * 3, none⟩ = some (.string a) := hcell 0 _ rfl
  have c1 : w.cell? ⟨b, off + k * 3 + 1, none⟩ = some (.int .i64 q) := hcell 1 _ rfl
  have c2 : w.cell? ⟨b, off + k * 3 + 2, none⟩ = some (.int .i64 i) := hcell 2 _ rfl
  obtain ⟨R, hR⟩ : ∃ R, expB (a, q, i) = R := ⟨_, rfl⟩
  rw [hR]
  simp only [expR, Bool.and_eq_true] at hq0
  have hz1 := nameB_le hq0.1
  have hz3 := u_le i
  have hs1 : a.size ≤ 4194304 := by have := hq0.1; simp only [nameR, Bool.and_eq_true, decide_eq_true_eq] at this; omega
  have C1 := hide (show ∀ w, Calls Tryz.prog 47 #[.slice none 0 0, .string a] w (Fresh 5 1 (nameB a).length (by8 (nameB a)) w) from fun w => by have h := iName_b none 0 0 [] a w Rd.nil (by omega) hs1; rwa [Nat.zero_add, List.nil_append] at h)
  have C3 := hide (show ∀ A n c bs w, Rd w w.heap.size 1 A n (by8 bs) → n ≤ 70368744177664 → Calls Tryz.prog 46 #[.slice A n c, .int .i64 i] w (Fresh 5 1 (n + (u i).length) (by8 (bs ++ u i)) w) from fun A n c bs w hr hn => iPutU A n c bs i w hr hn)
  obtain ⟨v, hv⟩ : ∃ v, IntKind.u8.wrap q = v := ⟨_, rfl⟩
  have HF : Hid (R = nameB a ++ v :: u i) := hide (by rw [← hR, ← hv, IntKind.wrap_u8]; rfl)
  obtain ⟨P1, hP1⟩ : ∃ P1, nameB a = P1 := ⟨_, rfl⟩
  obtain ⟨P3, hP3⟩ : ∃ P3, u i = P3 := ⟨_, rfl⟩
  rw [hP1] at C1 HF hz1
  rw [hP3] at C3 HF hz3
  clear hP1 hP3 hs1
  obtain ⟨r, hrr⟩ : ∃ r, w.heap.size = r := ⟨_, rfl⟩
  have H0 := hide (CQ.mk0 (L := []) ((Below.refl w.heap.size w).alloc (Nat.le_refl _) (.cells #[.string a, .int .i64 q, .int .i64 i] 89)) (Blk.new w #[.string a, .int .i64 q, .int .i64 i] 89) (World.ownsRow.alloc (own_nilB w 5 1) _) (by decide))
  have HS := hide (show ∀ W, Blk W r #[.string a, .int .i64 q, .int .i64 i] 89 → W.cell? ⟨r, 0, none⟩ = some (.string a) ∧ W.cell? ⟨r, 1, none⟩ = some (.int .i64 q) ∧ W.cell? ⟨r, 2, none⟩ = some (.int .i64 i) from fun W h => ⟨h.cell 0, h.cell 1, h.cell 2⟩)
  rw [hrr] at H0
  clear hR he0 he1 hx hcell hr hK hj hq hq0
  have HC2 : Hid (((#[.int .u8 v] : Array Value)).toList = by8 [v] ∧ ([v] : List Int).length = 1) := hide ⟨rfl, rfl⟩
  go_enter Tryz.func52, Tryz.ntmps52
  go_upto_region 2 with fail
  go_region_held2 (fun W => W.cell? ⟨r, 0, none⟩ = some (.string a) ∧ W.cell? ⟨r, 1, none⟩ = some (.int .i64 q) ∧ W.cell? ⟨r, 2, none⟩ = some (.int .i64 i)) (first | with_reducible exact HS.out _ H3.out.ch.box | with_reducible exact HS.out _ (H3.out.al _).ch.box | with_reducible exact HS.out _ ((H3.out.al _).al _).ch.box | with_reducible exact HS.out _ H2.out.ch.box | with_reducible exact HS.out _ (H2.out.al _).ch.box | with_reducible exact HS.out _ ((H2.out.al _).al _).ch.box | with_reducible exact HS.out _ H1.out.ch.box | with_reducible exact HS.out _ (H1.out.al _).ch.box | with_reducible exact HS.out _ ((H1.out.al _).al _).ch.box | with_reducible exact HS.out _ (CQ.drew H0.out).ch.box | with_reducible exact HS.out _ (CQ.drew (H0.out.al _)).ch.box | with_reducible exact HS.out _ (CQ.drew ((H0.out.al _).al _)).ch.box) (first
      | (have h0 := H2
         go_at_call 46
         refine (C3.out A2 (P1.length + 1) d2 (P1 ++ [v]) _ (by first | with_reducible exact H2.out.ch.own.rd | with_reducible exact (H2.out.al _).ch.own.rd | with_reducible exact ((H2.out.al _).al _).ch.own.rd | fail "none") (by omega)).mono ?_
         rintro e w3 ⟨A3, d3, rfl, hoj, hbj⟩
         first | (with_reducible have H3 := hide (H2.out.call hoj hbj)) | (with_reducible have H3 := hide ((H2.out.al _).call hoj hbj)) | (with_reducible have H3 := hide (((H2.out.al _).al _).call hoj hbj)) | fail "none"
         clear hoj hbj)
      | (have h0 := H1
         refine stepA (xs := by8 P1) (ys := by8 [v]) rfl _ _ rfl rfl rfl E8 (by first | with_reducible exact H1.out.ch.own | with_reducible exact (H1.out.al _).ch.own | with_reducible exact ((H1.out.al _).al _).ch.own | fail "none") (by first | with_reducible exact H1.out.rdq (by first | (simp; done) | (simp; omega)) HC2 | with_reducible exact (H1.out.al _).rdq (by first | (simp; done) | (simp; omega)) HC2 | with_reducible exact ((H1.out.al _).al _).rdq (by first | (simp; done) | (simp; omega)) HC2 | fail "none") (one8all _) (by omega) (by first | with_reducible exact H1.out.ch.bel.size | with_reducible exact (H1.out.al _).ch.bel.size | with_reducible exact ((H1.out.al _).al _).ch.bel.size | fail "none") ?_
         intro A2 d2 w2 hoj hgj hlj
         first | (with_reducible have H2 := hide (H1.out.app (M := [v]) hoj hgj hlj)) | (with_reducible have H2 := hide ((H1.out.al _).app (M := [v]) hoj hgj hlj)) | (with_reducible have H2 := hide (((H1.out.al _).al _).app (M := [v]) hoj hgj hlj)) | fail "none"
         clear hoj hgj hlj)
      | (have h0 := H0
         go_at_call 47
         refine (C1.out _).mono ?_
         rintro e w1 ⟨A1, d1, rfl, hoj, hbj⟩
         first | (with_reducible have H1 := hide ((CQ.drew H0.out).call hoj hbj)) | (with_reducible have H1 := hide ((CQ.drew (H0.out.al _)).call hoj hbj)) | (with_reducible have H1 := hide ((CQ.drew ((H0.out.al _).al _)).call hoj hbj)) | fail "none"
         clear hoj hbj)
      | fail "no arm")
  all_goals
    clear HS
    go_wp2_with fail
    go_ret
    have e1 : P1.length + 1 + P3.length = R.length := by rw [HF.out]; simp; omega
    have h3 := H3.out.ch.own
    rw [e1] at h3
    refine ⟨A3, d3, by rw [← e1]; rfl, ?_, H3.out.ch.bel⟩
    rw [HF.out] at h3 ⊢
    simpa using h3
end Go.Proofs.YtiinkfejdnfonaaGreatDoor.Mb
