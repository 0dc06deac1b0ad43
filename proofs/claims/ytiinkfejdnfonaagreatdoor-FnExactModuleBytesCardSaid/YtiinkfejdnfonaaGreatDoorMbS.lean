/- The reference's writers of a module's lists: a contract each. -/
import Derived.Test.YtiinkfejdnfonaaGreatDoorMbC
namespace Go.Proofs.YtiinkfejdnfonaaGreatDoor.Mb
open Go.RowKit Go.Proofs.YtiinkfejdnfonaaGreatDoor.Num Go.Proofs.YtiinkfejdnfonaaGreatDoor.NumC Go.Proofs.YtiinkfejdnfonaaGreatDoor.Mem Go.Proofs.YtiinkfejdnfonaaGreatDoor.Shape Go.Proofs.YtiinkfejdnfonaaGreatDoor.Utf Go.Proofs.YtiinkfejdnfonaaGreatDoor.Ops Go.Proofs.YtiinkfejdnfonaaGreatDoor.Leb Go.Proofs.YtiinkfejdnfonaaGreatDoor.Mo Go.Proofs.YtiinkfejdnfonaaGreatDoor.Bb Go.Proofs.YtiinkfejdnfonaaGreatDoor.NameC Go.Proofs.YtiinkfejdnfonaaGreatDoor.PutC
set_option linter.unusedVariables false
set_option maxRecDepth 100000 in
set_option maxHeartbeats 4000000 in
theorem sImports (A : Option Addr) (n c : Nat) (l : List Imp3) (w : World) (hr : Rd w w.heap.size 3 A n (fl impC l)) (hn : (n : Int) ≤ 60) (S : Nat) (hq : ∀ x ∈ l, impR S x = true) :
    Calls Tryz.prog 27 #[.slice A n c] w (Fresh 5 1 (l.flatMap impB).length (by8 (l.flatMap impB)) w) := by
  have hl := rd_len impL (by omega) hr
  have HQ := hide hq
  have HR := hide hr
  have HB2 := hide (show ∀ k, ((l.take k).flatMap impB).length ≤ 1020000 from fun k => fm_take (K := 17000) (fun x hx => impB_le (hq x hx)) (by omega) (Nat.le_refl _))
  have HL := hide hl
  clear hr hl
  go_enter Tryz.func27, Tryz.ntmps27
  go_wp2_with fail
  go_loopw [3, 9] (fun s i wr => ∃ (k N : Nat) (As : Option Addr) (d : Nat), k ≤ n ∧ i = .int .i64 k ∧ s = .slice As N d ∧ Hid (SoFar w impB l k As N d wr)) (fun _ i _ => n - (intOf i).toNat)
  case atStart => exact ⟨0, 0, _, _, Nat.zero_le _, rfl, rfl, hide ⟨rfl, own_emptyB w _ 1, (Below.refl _ _).alloc (Nat.le_refl _) _⟩⟩
  case round =>
    obtain ⟨k, N, As, d, hk, rfl, rfl, HF⟩ := hrel
    obtain ⟨hN, ho, hb⟩ := HF.out
    have hNb : (N : Int) ≤ 1020000 := by have := HB2.out k; omega
    have HO := hide ho
    have HB := hide hb
    obtain ⟨L, hLL⟩ : ∃ L, (l.take k).flatMap impB = L := ⟨_, rfl⟩
    rw [hLL] at HO hN
    have HN := hide (And.intro hN hLL)
    clear ho hb hN hLL HF
    by_cases hlt : k < n
    · obtain ⟨b, off, x, rfl, hx, hbb, hcell⟩ := rd_get (wr := wr) impL (by omega) HR.out k hlt (fun p hp => HB.out.cell hp)
      have hi0 : (0 : Int) ≤ k := by omega
      have hi1 : (k : Int) < n := by omega
      have hq := HQ.out x (List.mem_of_getElem? hx)
      obtain ⟨a, c0s, g⟩ := x
      have c0 : wr.cell? ⟨b, off + k * 3, none⟩ = some (.string a) := hcell 0 _ rfl
      have c1 : wr.cell? ⟨b, off + k * 3 + 1, none⟩ = some (.string c0s) := hcell 1 _ rfl
      have c2 : wr.cell? ⟨b, off + k * 3 + 2, none⟩ = some (.int .i64 g) := hcell 2 _ rfl
      have HX := hide hx
      clear hcell hx
      simp only [impR, Bool.and_eq_true] at hq
      have hz1 := nameB_le hq.2.1
      have hz2 := nameB_le hq.2.2
      have hz3 := u_le g
      have hs1 : a.size ≤ 4194304 := by have := hq.2.1; simp only [nameR, Bool.and_eq_true, decide_eq_true_eq] at this; omega
      have hs2 : c0s.size ≤ 4194304 := by have := hq.2.2; simp only [nameR, Bool.and_eq_true, decide_eq_true_eq] at this; omega
      have C1 := hide (fun A n c bs w hr hn => sName_b A n c bs a w hr hn hs1)
      have C2 := hide (fun A n c bs w hr hn => sName_b A n c bs c0s w hr hn hs2)
      have C3 := hide (fun A n c bs w hr hn => sPutU A n c bs g w hr hn)
      have HF : Hid (impB (a, c0s, g) = nameB a ++ (nameB c0s ++ 0 :: u g)) := hide rfl
      obtain ⟨P1, hP1⟩ : ∃ P1, nameB a = P1 := ⟨_, rfl⟩
      obtain ⟨P2, hP2⟩ : ∃ P2, nameB c0s = P2 := ⟨_, rfl⟩
      obtain ⟨P3, hP3⟩ : ∃ P3, u g = P3 := ⟨_, rfl⟩
      have C3 : Hid (∀ A n c bs w, Rd w w.heap.size 1 A n (by8 bs) → n ≤ 70368744177664 → Calls Tryz.prog 77 #[.slice A n c, .int .i64 g] w (Fresh 5 1 (n + (u g).length) (by8 (bs ++ u g)) w)) := hide C3.out
      rw [hP1] at C1 HF hz1
      rw [hP2] at C2 HF hz2
      rw [hP3] at C3 HF hz3
      clear hP1 hP2 hP3 hq hs1 hs2
      obtain ⟨r, hrr⟩ : ∃ r, wr.heap.size = r := ⟨_, rfl⟩
      have H0 := hide ((CQ.mk0 (HB.out.alloc HB.out.size (.cells #[.string a, .string c0s, .int .i64 g] 79)) (Blk.new wr #[.string a, .string c0s, .int .i64 g] 79) (World.ownsRow.alloc HO.out _) (by decide)))
      rw [hrr] at H0
      have HS := hide (show ∀ W, Blk W r #[.string a, .string c0s, .int .i64 g] 79 → W.cell? ⟨r, 0, none⟩ = some (.string a) ∧ W.cell? ⟨r, 1, none⟩ = some (.string c0s) ∧ W.cell? ⟨r, 2, none⟩ = some (.int .i64 g) from fun W h => ⟨h.cell 0, h.cell 1, h.cell 2⟩)
      have HC3 : Hid (((#[.int .u8 0] : Array Value)).toList = by8 [0] ∧ ([0] : List Int).length = 1) := hide ⟨rfl, rfl⟩
      go_upto_region 5 with fail
      go_region_held2 (fun W => W.cell? ⟨r, 0, none⟩ = some (.string a) ∧ W.cell? ⟨r, 1, none⟩ = some (.string c0s) ∧ W.cell? ⟨r, 2, none⟩ = some (.int .i64 g)) (first | with_reducible exact HS.out _ H4.out.ch.box | with_reducible exact HS.out _ (H4.out.al _).ch.box | with_reducible exact HS.out _ ((H4.out.al _).al _).ch.box | with_reducible exact HS.out _ H3.out.ch.box | with_reducible exact HS.out _ (H3.out.al _).ch.box | with_reducible exact HS.out _ ((H3.out.al _).al _).ch.box | with_reducible exact HS.out _ H2.out.ch.box | with_reducible exact HS.out _ (H2.out.al _).ch.box | with_reducible exact HS.out _ ((H2.out.al _).al _).ch.box | with_reducible exact HS.out _ H1.out.ch.box | with_reducible exact HS.out _ (H1.out.al _).ch.box | with_reducible exact HS.out _ ((H1.out.al _).al _).ch.box | with_reducible exact HS.out _ (CQ.drew H0.out).ch.box | with_reducible exact HS.out _ (CQ.drew (H0.out.al _)).ch.box | with_reducible exact HS.out _ (CQ.drew ((H0.out.al _).al _)).ch.box) (first
          | (have h0 := H3
             go_at_call 77
             refine (C3.out A3 (N + P1.length + P2.length + 1) d3 (((L ++ P1) ++ P2) ++ [0]) _ (by first | with_reducible exact H3.out.ch.own.rd | with_reducible exact (H3.out.al _).ch.own.rd | with_reducible exact ((H3.out.al _).al _).ch.own.rd | fail "none") (by omega)).mono ?_
             rintro e w4 ⟨A4, d4, rfl, hoj, hbj⟩
             first | (with_reducible have H4 := hide (H3.out.call hoj hbj)) | (with_reducible have H4 := hide ((H3.out.al _).call hoj hbj)) | (with_reducible have H4 := hide (((H3.out.al _).al _).call hoj hbj)) | fail "none"
             clear hoj hbj)
          | (have h0 := H2
             refine stepA (xs := by8 ((L ++ P1) ++ P2)) (ys := by8 [0]) rfl _ _ rfl rfl rfl E8 (by first | with_reducible exact H2.out.ch.own | with_reducible exact (H2.out.al _).ch.own | with_reducible exact ((H2.out.al _).al _).ch.own | fail "none") (by first | with_reducible exact H2.out.rdq (by first | (simp; done) | (simp; omega)) HC3 | with_reducible exact (H2.out.al _).rdq (by first | (simp; done) | (simp; omega)) HC3 | with_reducible exact ((H2.out.al _).al _).rdq (by first | (simp; done) | (simp; omega)) HC3 | fail "none") (one8all _) (by omega) (by first | with_reducible exact H2.out.ch.bel.size | with_reducible exact (H2.out.al _).ch.bel.size | with_reducible exact ((H2.out.al _).al _).ch.bel.size | fail "none") ?_
             intro A3 d3 w3 hoj hgj hlj
             first | (with_reducible have H3 := hide (H2.out.app (M := [0]) hoj hgj hlj)) | (with_reducible have H3 := hide ((H2.out.al _).app (M := [0]) hoj hgj hlj)) | (with_reducible have H3 := hide (((H2.out.al _).al _).app (M := [0]) hoj hgj hlj)) | fail "none"
             clear hoj hgj hlj)
          | (have h0 := H1
             go_at_call 79
             refine (C2.out A1 (N + P1.length) d1 (L ++ P1) _ (by first | with_reducible exact H1.out.ch.own.rd | with_reducible exact (H1.out.al _).ch.own.rd | with_reducible exact ((H1.out.al _).al _).ch.own.rd | fail "none") (by omega)).mono ?_
             rintro e w2 ⟨A2, d2, rfl, hoj, hbj⟩
             first | (with_reducible have H2 := hide (H1.out.call hoj hbj)) | (with_reducible have H2 := hide ((H1.out.al _).call hoj hbj)) | (with_reducible have H2 := hide (((H1.out.al _).al _).call hoj hbj)) | fail "none"
             clear hoj hbj)
          | (have h0 := H0
             go_at_call 79
             refine (C1.out As (N) d L _ (by first | with_reducible exact (CQ.drew H0.out).ch.own.rd | with_reducible exact (CQ.drew (H0.out.al _)).ch.own.rd | with_reducible exact (CQ.drew ((H0.out.al _).al _)).ch.own.rd | fail "none") (by omega)).mono ?_
             rintro e w1 ⟨A1, d1, rfl, hoj, hbj⟩
             first | (with_reducible have H1 := hide ((CQ.drew H0.out).call hoj hbj)) | (with_reducible have H1 := hide ((CQ.drew (H0.out.al _)).call hoj hbj)) | (with_reducible have H1 := hide ((CQ.drew ((H0.out.al _).al _)).call hoj hbj)) | fail "none"
             clear hoj hbj)
          | fail "no arm")
      all_goals
        clear HS
        go_wp2_with fail
        go_roundw
        case rel =>
          refine ⟨k + 1, _, _, _, by omega, by go_num, rfl, hide ⟨?_, ?_, H4.out.ch.bel⟩⟩
          · rw [fm_step HX.out, HN.out.2, HF.out, List.length_append, ← HN.out.1]
            simp
            omega
          · rw [fm_step HX.out, HN.out.2, HF.out]
            have h := H4.out.ch.own
            simpa using h
        case measure => simp [intOf]; omega
    · obtain rfl : k = n := by omega
      go_wp2_with fail
      go_ret
      have h1 := HN.out.2
      rw [fm_full HL.out] at h1
      have h2 := HN.out.1
      rw [← h1] at h2
      have h3 := HO.out
      rw [← h1] at h3
      exact ⟨As, d, by rw [← h2]; rfl, by rw [← h2]; exact h3, HB.out⟩
set_option maxRecDepth 100000 in
set_option maxHeartbeats 4000000 in
theorem sExports (A : Option Addr) (n c : Nat) (l : List Exp3) (w : World) (hr : Rd w w.heap.size 3 A n (fl expC l)) (hn : (n : Int) ≤ 60) (hq : ∀ x ∈ l, expR x = true) :
    Calls Tryz.prog 30 #[.slice A n c] w (Fresh 5 1 (l.flatMap expB).length (by8 (l.flatMap expB)) w) := by
  have hl := rd_len expL (by omega) hr
  have HQ := hide hq
  have HR := hide hr
  have HB2 := hide (show ∀ k, ((l.take k).flatMap expB).length ≤ 1020000 from fun k => fm_take (K := 17000) (fun x hx => expB_le (hq x hx)) (by omega) (Nat.le_refl _))
  have HL := hide hl
  clear hr hl
  go_enter Tryz.func30, Tryz.ntmps30
  go_wp2_with fail
  go_loopw [3, 9] (fun s i wr => ∃ (k N : Nat) (As : Option Addr) (d : Nat), k ≤ n ∧ i = .int .i64 k ∧ s = .slice As N d ∧ Hid (SoFar w expB l k As N d wr)) (fun _ i _ => n - (intOf i).toNat)
  case atStart => exact ⟨0, 0, _, _, Nat.zero_le _, rfl, rfl, hide ⟨rfl, own_emptyB w _ 1, (Below.refl _ _).alloc (Nat.le_refl _) _⟩⟩
  case round =>
    obtain ⟨k, N, As, d, hk, rfl, rfl, HF⟩ := hrel
    obtain ⟨hN, ho, hb⟩ := HF.out
    have hNb : (N : Int) ≤ 1020000 := by have := HB2.out k; omega
    have HO := hide ho
    have HB := hide hb
    obtain ⟨L, hLL⟩ : ∃ L, (l.take k).flatMap expB = L := ⟨_, rfl⟩
    rw [hLL] at HO hN
    have HN := hide (And.intro hN hLL)
    clear ho hb hN hLL HF
    by_cases hlt : k < n
    · obtain ⟨b, off, x, rfl, hx, hbb, hcell⟩ := rd_get (wr := wr) expL (by omega) HR.out k hlt (fun p hp => HB.out.cell hp)
      have hi0 : (0 : Int) ≤ k := by omega
      have hi1 : (k : Int) < n := by omega
      have hq := HQ.out x (List.mem_of_getElem? hx)
      obtain ⟨a, q, g⟩ := x
      have c0 : wr.cell? ⟨b, off + k * 3, none⟩ = some (.string a) := hcell 0 _ rfl
      have c1 : wr.cell? ⟨b, off + k * 3 + 1, none⟩ = some (.int .i64 q) := hcell 1 _ rfl
      have c2 : wr.cell? ⟨b, off + k * 3 + 2, none⟩ = some (.int .i64 g) := hcell 2 _ rfl
      have HX := hide hx
      clear hcell hx
      simp only [expR, Bool.and_eq_true] at hq
      have hz1 := nameB_le hq.1
      have hz3 := u_le g
      have hs1 : a.size ≤ 4194304 := by have := hq.1; simp only [nameR, Bool.and_eq_true, decide_eq_true_eq] at this; omega
      have C1 := hide (fun A n c bs w hr hn => sName_b A n c bs a w hr hn hs1)
      have C3 := hide (show ∀ A n c bs w, Rd w w.heap.size 1 A n (by8 bs) → n ≤ 70368744177664 → Calls Tryz.prog 77 #[.slice A n c, .int .i64 g] w (Fresh 5 1 (n + (u g).length) (by8 (bs ++ u g)) w) from fun A n c bs w hr hn => sPutU A n c bs g w hr hn)
      obtain ⟨v, hv⟩ : ∃ v, IntKind.u8.wrap q = v := ⟨_, rfl⟩
      have HF : Hid (expB (a, q, g) = nameB a ++ v :: u g) := hide (by rw [← hv, IntKind.wrap_u8]; rfl)
      obtain ⟨P1, hP1⟩ : ∃ P1, nameB a = P1 := ⟨_, rfl⟩
      obtain ⟨P3, hP3⟩ : ∃ P3, u g = P3 := ⟨_, rfl⟩
      rw [hP1] at C1 HF hz1
      rw [hP3] at C3 HF hz3
      clear hP1 hP3 hq hs1
      obtain ⟨r, hrr⟩ : ∃ r, wr.heap.size = r := ⟨_, rfl⟩
      have H0 := hide ((CQ.mk0 (HB.out.alloc HB.out.size (.cells #[.string a, .int .i64 q, .int .i64 g] 89)) (Blk.new wr #[.string a, .int .i64 q, .int .i64 g] 89) (World.ownsRow.alloc HO.out _) (by decide)))
      rw [hrr] at H0
      have HS := hide (show ∀ W, Blk W r #[.string a, .int .i64 q, .int .i64 g] 89 → W.cell? ⟨r, 0, none⟩ = some (.string a) ∧ W.cell? ⟨r, 1, none⟩ = some (.int .i64 q) ∧ W.cell? ⟨r, 2, none⟩ = some (.int .i64 g) from fun W h => ⟨h.cell 0, h.cell 1, h.cell 2⟩)
      have HC2 : Hid (((#[.int .u8 v] : Array Value)).toList = by8 [v] ∧ ([v] : List Int).length = 1) := hide ⟨rfl, rfl⟩
      go_upto_region 5 with fail
      go_region_held2 (fun W => W.cell? ⟨r, 0, none⟩ = some (.string a) ∧ W.cell? ⟨r, 1, none⟩ = some (.int .i64 q) ∧ W.cell? ⟨r, 2, none⟩ = some (.int .i64 g)) (first | with_reducible exact HS.out _ H3.out.ch.box | with_reducible exact HS.out _ (H3.out.al _).ch.box | with_reducible exact HS.out _ ((H3.out.al _).al _).ch.box | with_reducible exact HS.out _ H2.out.ch.box | with_reducible exact HS.out _ (H2.out.al _).ch.box | with_reducible exact HS.out _ ((H2.out.al _).al _).ch.box | with_reducible exact HS.out _ H1.out.ch.box | with_reducible exact HS.out _ (H1.out.al _).ch.box | with_reducible exact HS.out _ ((H1.out.al _).al _).ch.box | with_reducible exact HS.out _ (CQ.drew H0.out).ch.box | with_reducible exact HS.out _ (CQ.drew (H0.out.al _)).ch.box | with_reducible exact HS.out _ (CQ.drew ((H0.out.al _).al _)).ch.box) (first
          | (have h0 := H2
             go_at_call 77
             refine (C3.out A2 (N + P1.length + 1) d2 ((L ++ P1) ++ [v]) _ (by first | with_reducible exact H2.out.ch.own.rd | with_reducible exact (H2.out.al _).ch.own.rd | with_reducible exact ((H2.out.al _).al _).ch.own.rd | fail "none") (by omega)).mono ?_
             rintro e w3 ⟨A3, d3, rfl, hoj, hbj⟩
             first | (with_reducible have H3 := hide (H2.out.call hoj hbj)) | (with_reducible have H3 := hide ((H2.out.al _).call hoj hbj)) | (with_reducible have H3 := hide (((H2.out.al _).al _).call hoj hbj)) | fail "none"
             clear hoj hbj)
          | (have h0 := H1
             refine stepA (xs := by8 (L ++ P1)) (ys := by8 [v]) rfl _ _ rfl rfl rfl E8 (by first | with_reducible exact H1.out.ch.own | with_reducible exact (H1.out.al _).ch.own | with_reducible exact ((H1.out.al _).al _).ch.own | fail "none") (by first | with_reducible exact H1.out.rdq (by first | (simp; done) | (simp; omega)) HC2 | with_reducible exact (H1.out.al _).rdq (by first | (simp; done) | (simp; omega)) HC2 | with_reducible exact ((H1.out.al _).al _).rdq (by first | (simp; done) | (simp; omega)) HC2 | fail "none") (one8all _) (by omega) (by first | with_reducible exact H1.out.ch.bel.size | with_reducible exact (H1.out.al _).ch.bel.size | with_reducible exact ((H1.out.al _).al _).ch.bel.size | fail "none") ?_
             intro A2 d2 w2 hoj hgj hlj
             first | (with_reducible have H2 := hide (H1.out.app (M := [v]) hoj hgj hlj)) | (with_reducible have H2 := hide ((H1.out.al _).app (M := [v]) hoj hgj hlj)) | (with_reducible have H2 := hide (((H1.out.al _).al _).app (M := [v]) hoj hgj hlj)) | fail "none"
             clear hoj hgj hlj)
          | (have h0 := H0
             go_at_call 79
             refine (C1.out As (N) d L _ (by first | with_reducible exact (CQ.drew H0.out).ch.own.rd | with_reducible exact (CQ.drew (H0.out.al _)).ch.own.rd | with_reducible exact (CQ.drew ((H0.out.al _).al _)).ch.own.rd | fail "none") (by omega)).mono ?_
             rintro e w1 ⟨A1, d1, rfl, hoj, hbj⟩
             first | (with_reducible have H1 := hide ((CQ.drew H0.out).call hoj hbj)) | (with_reducible have H1 := hide ((CQ.drew (H0.out.al _)).call hoj hbj)) | (with_reducible have H1 := hide ((CQ.drew ((H0.out.al _).al _)).call hoj hbj)) | fail "none"
             clear hoj hbj)
          | fail "no arm")
      all_goals
        clear HS
        go_wp2_with fail
        go_roundw
        case rel =>
          refine ⟨k + 1, _, _, _, by omega, by go_num, rfl, hide ⟨?_, ?_, H3.out.ch.bel⟩⟩
          · rw [fm_step HX.out, HN.out.2, HF.out, List.length_append, ← HN.out.1]
            simp
            omega
          · rw [fm_step HX.out, HN.out.2, HF.out]
            have h := H3.out.ch.own
            simpa using h
        case measure => simp [intOf]; omega
    · obtain rfl : k = n := by omega
      go_wp2_with fail
      go_ret
      have h1 := HN.out.2
      rw [fm_full HL.out] at h1
      have h2 := HN.out.1
      rw [← h1] at h2
      have h3 := HO.out
      rw [← h1] at h3
      exact ⟨As, d, by rw [← h2]; rfl, by rw [← h2]; exact h3, HB.out⟩
set_option maxRecDepth 100000 in
set_option maxHeartbeats 4000000 in
theorem sGlobals (A : Option Addr) (n c : Nat) (l : List Glo2) (w : World) (hr : Rd w w.heap.size 2 A n (fl gloC l)) (hn : (n : Int) ≤ 60)  :
    Calls Tryz.prog 29 #[.slice A n c] w (Fresh 5 1 (l.flatMap gloB).length (by8 (l.flatMap gloB)) w) := by
  have hl := rd_len gloL (by omega) hr
  have HQ := hide trivial
  have HR := hide hr
  have HB2 := hide (show ∀ k, ((l.take k).flatMap gloB).length ≤ 1020000 from fun k => fm_take (K := 17000) (fun x hx => gloB_le x) (by omega) (Nat.le_refl _))
  have HL := hide hl
  clear hr hl
  go_enter Tryz.func29, Tryz.ntmps29
  go_wp2_with fail
  go_loopw [3, 10] (fun s i wr => ∃ (k N : Nat) (As : Option Addr) (d : Nat), k ≤ n ∧ i = .int .i64 k ∧ s = .slice As N d ∧ Hid (SoFar w gloB l k As N d wr)) (fun _ i _ => n - (intOf i).toNat)
  case atStart => exact ⟨0, 0, _, _, Nat.zero_le _, rfl, rfl, hide ⟨rfl, own_emptyB w _ 1, (Below.refl _ _).alloc (Nat.le_refl _) _⟩⟩
  case round =>
    obtain ⟨k, N, As, d, hk, rfl, rfl, HF⟩ := hrel
    obtain ⟨hN, ho, hb⟩ := HF.out
    have hNb : (N : Int) ≤ 1020000 := by have := HB2.out k; omega
    have HO := hide ho
    have HB := hide hb
    obtain ⟨L, hLL⟩ : ∃ L, (l.take k).flatMap gloB = L := ⟨_, rfl⟩
    rw [hLL] at HO hN
    have HN := hide (And.intro hN hLL)
    clear ho hb hN hLL HF
    by_cases hlt : k < n
    · obtain ⟨b, off, x, rfl, hx, hbb, hcell⟩ := rd_get (wr := wr) gloL (by omega) HR.out k hlt (fun p hp => HB.out.cell hp)
      have hi0 : (0 : Int) ≤ k := by omega
      have hi1 : (k : Int) < n := by omega
      have hq := HQ.out
      obtain ⟨mu, i⟩ := x
      have c0 : wr.cell? ⟨b, off + k * 2, none⟩ = some (.bool mu) := hcell 0 _ rfl
      have c1 : wr.cell? ⟨b, off + k * 2 + 1, none⟩ = some (.int .i64 i) := hcell 1 _ rfl
      have HX := hide hx
      clear hcell hx
      have hz1 := v7_le i
      have C1 := hide (show ∀ A n c bs w, Rd w w.heap.size 1 A n (by8 bs) → n ≤ 70368744177664 → Calls Tryz.prog 80 #[.slice A n c, .int .i64 i] w (Fresh 5 1 (n + (v7 i).length) (by8 (bs ++ v7 i)) w) from fun A n c bs w hr hn => sPutS A n c bs i w hr hn)
      obtain ⟨P1, hP1⟩ : ∃ P1, v7 i = P1 := ⟨_, rfl⟩
      rw [hP1] at C1 hz1
      have HP1 := hide hP1
      clear hP1 hq
      obtain ⟨r, hrr⟩ : ∃ r, wr.heap.size = r := ⟨_, rfl⟩
      have H0 := hide ((CQ.mk0 (HB.out.alloc HB.out.size (.cells #[.bool mu, .int .i64 i] 87)) (Blk.new wr #[.bool mu, .int .i64 i] 87) (World.ownsRow.alloc HO.out _) (by decide)))
      rw [hrr] at H0
      have HS := hide (show ∀ W, Blk W r #[.bool mu, .int .i64 i] 87 → W.cell? ⟨r, 0, none⟩ = some (.bool mu) ∧ W.cell? ⟨r, 1, none⟩ = some (.int .i64 i) from fun W h => ⟨h.cell 0, h.cell 1⟩)
      cases mu
      · have HF : Hid (gloB (false, i) = 127 :: 0 :: 65 :: (P1 ++ [11])) := hide (by rw [← HP1.out]; rfl)
        have HC1 : Hid (((#[.int .u8 127, .int .u8 0, .int .u8 65] : Array Value)).toList = by8 [127, 0, 65] ∧ ([127, 0, 65] : List Int).length = 3) := hide ⟨rfl, rfl⟩
        have HC3 : Hid (((#[.int .u8 11] : Array Value)).toList = by8 [11] ∧ ([11] : List Int).length = 1) := hide ⟨rfl, rfl⟩
        go_upto_region 8 with fail
        go_region_held2 (fun W => W.cell? ⟨r, 0, none⟩ = some (.bool false) ∧ W.cell? ⟨r, 1, none⟩ = some (.int .i64 i)) (first | with_reducible exact HS.out _ H3.out.ch.box | with_reducible exact HS.out _ (H3.out.al _).ch.box | with_reducible exact HS.out _ ((H3.out.al _).al _).ch.box | with_reducible exact HS.out _ H2.out.ch.box | with_reducible exact HS.out _ (H2.out.al _).ch.box | with_reducible exact HS.out _ ((H2.out.al _).al _).ch.box | with_reducible exact HS.out _ H1.out.ch.box | with_reducible exact HS.out _ (H1.out.al _).ch.box | with_reducible exact HS.out _ ((H1.out.al _).al _).ch.box | with_reducible exact HS.out _ (CQ.drew H0.out).ch.box | with_reducible exact HS.out _ (CQ.drew (H0.out.al _)).ch.box | with_reducible exact HS.out _ (CQ.drew ((H0.out.al _).al _)).ch.box) (first
            | (have h0 := H2
               refine stepA (xs := by8 ((L ++ [127, 0, 65]) ++ P1)) (ys := by8 [11]) rfl _ _ rfl rfl rfl E8 (by first | with_reducible exact H2.out.ch.own | with_reducible exact (H2.out.al _).ch.own | with_reducible exact ((H2.out.al _).al _).ch.own | fail "none") (by first | with_reducible exact H2.out.rdq (by first | (simp; done) | (simp; omega)) HC3 | with_reducible exact (H2.out.al _).rdq (by first | (simp; done) | (simp; omega)) HC3 | with_reducible exact ((H2.out.al _).al _).rdq (by first | (simp; done) | (simp; omega)) HC3 | fail "none") (one8all _) (by omega) (by first | with_reducible exact H2.out.ch.bel.size | with_reducible exact (H2.out.al _).ch.bel.size | with_reducible exact ((H2.out.al _).al _).ch.bel.size | fail "none") ?_
               intro A3 d3 w3 hoj hgj hlj
               first | (with_reducible have H3 := hide (H2.out.app (M := [11]) hoj hgj hlj)) | (with_reducible have H3 := hide ((H2.out.al _).app (M := [11]) hoj hgj hlj)) | (with_reducible have H3 := hide (((H2.out.al _).al _).app (M := [11]) hoj hgj hlj)) | fail "none"
               clear hoj hgj hlj)
            | (have h0 := H1
               go_at_call 80
               refine (C1.out A1 (N + 3) d1 (L ++ [127, 0, 65]) _ (by first | with_reducible exact H1.out.ch.own.rd | with_reducible exact (H1.out.al _).ch.own.rd | with_reducible exact ((H1.out.al _).al _).ch.own.rd | fail "none") (by omega)).mono ?_
               rintro e w2 ⟨A2, d2, rfl, hoj, hbj⟩
               first | (with_reducible have H2 := hide (H1.out.call hoj hbj)) | (with_reducible have H2 := hide ((H1.out.al _).call hoj hbj)) | (with_reducible have H2 := hide (((H1.out.al _).al _).call hoj hbj)) | fail "none"
               clear hoj hbj)
            | (have h0 := H0
               refine stepA (xs := by8 L) (ys := by8 [127, 0, 65]) rfl _ _ rfl rfl rfl E8 (by first | with_reducible exact (CQ.drew H0.out).ch.own | with_reducible exact (CQ.drew (H0.out.al _)).ch.own | with_reducible exact (CQ.drew ((H0.out.al _).al _)).ch.own | fail "none") (by first | with_reducible exact (CQ.drew H0.out).rdq (by first | (simp; done) | (simp; omega)) HC1 | with_reducible exact (CQ.drew (H0.out.al _)).rdq (by first | (simp; done) | (simp; omega)) HC1 | with_reducible exact (CQ.drew ((H0.out.al _).al _)).rdq (by first | (simp; done) | (simp; omega)) HC1 | fail "none") (one8all _) (by omega) (by first | with_reducible exact (CQ.drew H0.out).ch.bel.size | with_reducible exact (CQ.drew (H0.out.al _)).ch.bel.size | with_reducible exact (CQ.drew ((H0.out.al _).al _)).ch.bel.size | fail "none") ?_
               intro A1 d1 w1 hoj hgj hlj
               first | (with_reducible have H1 := hide ((CQ.drew H0.out).app (M := [127, 0, 65]) hoj hgj hlj)) | (with_reducible have H1 := hide ((CQ.drew (H0.out.al _)).app (M := [127, 0, 65]) hoj hgj hlj)) | (with_reducible have H1 := hide ((CQ.drew ((H0.out.al _).al _)).app (M := [127, 0, 65]) hoj hgj hlj)) | fail "none"
               clear hoj hgj hlj)
            | fail "no arm")
        all_goals
          clear HS
          go_wp2_with fail
          go_roundw
          case rel =>
            refine ⟨k + 1, _, _, _, by omega, by go_num, rfl, hide ⟨?_, ?_, H3.out.ch.bel⟩⟩
            · rw [fm_step HX.out, HN.out.2, HF.out, List.length_append, ← HN.out.1]
              simp
              omega
            · rw [fm_step HX.out, HN.out.2, HF.out]
              have h := H3.out.ch.own
              simpa using h
          case measure => simp [intOf]; omega
      · have HF : Hid (gloB (true, i) = 127 :: 1 :: 65 :: (P1 ++ [11])) := hide (by rw [← HP1.out]; rfl)
        have HC1 : Hid (((#[.int .u8 127, .int .u8 1, .int .u8 65] : Array Value)).toList = by8 [127, 1, 65] ∧ ([127, 1, 65] : List Int).length = 3) := hide ⟨rfl, rfl⟩
        have HC3 : Hid (((#[.int .u8 11] : Array Value)).toList = by8 [11] ∧ ([11] : List Int).length = 1) := hide ⟨rfl, rfl⟩
        go_upto_region 8 with fail
        go_region_held2 (fun W => W.cell? ⟨r, 0, none⟩ = some (.bool true) ∧ W.cell? ⟨r, 1, none⟩ = some (.int .i64 i)) (first | with_reducible exact HS.out _ H3.out.ch.box | with_reducible exact HS.out _ (H3.out.al _).ch.box | with_reducible exact HS.out _ ((H3.out.al _).al _).ch.box | with_reducible exact HS.out _ H2.out.ch.box | with_reducible exact HS.out _ (H2.out.al _).ch.box | with_reducible exact HS.out _ ((H2.out.al _).al _).ch.box | with_reducible exact HS.out _ H1.out.ch.box | with_reducible exact HS.out _ (H1.out.al _).ch.box | with_reducible exact HS.out _ ((H1.out.al _).al _).ch.box | with_reducible exact HS.out _ (CQ.drew H0.out).ch.box | with_reducible exact HS.out _ (CQ.drew (H0.out.al _)).ch.box | with_reducible exact HS.out _ (CQ.drew ((H0.out.al _).al _)).ch.box) (first
            | (have h0 := H2
               refine stepA (xs := by8 ((L ++ [127, 1, 65]) ++ P1)) (ys := by8 [11]) rfl _ _ rfl rfl rfl E8 (by first | with_reducible exact H2.out.ch.own | with_reducible exact (H2.out.al _).ch.own | with_reducible exact ((H2.out.al _).al _).ch.own | fail "none") (by first | with_reducible exact H2.out.rdq (by first | (simp; done) | (simp; omega)) HC3 | with_reducible exact (H2.out.al _).rdq (by first | (simp; done) | (simp; omega)) HC3 | with_reducible exact ((H2.out.al _).al _).rdq (by first | (simp; done) | (simp; omega)) HC3 | fail "none") (one8all _) (by omega) (by first | with_reducible exact H2.out.ch.bel.size | with_reducible exact (H2.out.al _).ch.bel.size | with_reducible exact ((H2.out.al _).al _).ch.bel.size | fail "none") ?_
               intro A3 d3 w3 hoj hgj hlj
               first | (with_reducible have H3 := hide (H2.out.app (M := [11]) hoj hgj hlj)) | (with_reducible have H3 := hide ((H2.out.al _).app (M := [11]) hoj hgj hlj)) | (with_reducible have H3 := hide (((H2.out.al _).al _).app (M := [11]) hoj hgj hlj)) | fail "none"
               clear hoj hgj hlj)
            | (have h0 := H1
               go_at_call 80
               refine (C1.out A1 (N + 3) d1 (L ++ [127, 1, 65]) _ (by first | with_reducible exact H1.out.ch.own.rd | with_reducible exact (H1.out.al _).ch.own.rd | with_reducible exact ((H1.out.al _).al _).ch.own.rd | fail "none") (by omega)).mono ?_
               rintro e w2 ⟨A2, d2, rfl, hoj, hbj⟩
               first | (with_reducible have H2 := hide (H1.out.call hoj hbj)) | (with_reducible have H2 := hide ((H1.out.al _).call hoj hbj)) | (with_reducible have H2 := hide (((H1.out.al _).al _).call hoj hbj)) | fail "none"
               clear hoj hbj)
            | (have h0 := H0
               refine stepA (xs := by8 L) (ys := by8 [127, 1, 65]) rfl _ _ rfl rfl rfl E8 (by first | with_reducible exact (CQ.drew H0.out).ch.own | with_reducible exact (CQ.drew (H0.out.al _)).ch.own | with_reducible exact (CQ.drew ((H0.out.al _).al _)).ch.own | fail "none") (by first | with_reducible exact (CQ.drew H0.out).rdq (by first | (simp; done) | (simp; omega)) HC1 | with_reducible exact (CQ.drew (H0.out.al _)).rdq (by first | (simp; done) | (simp; omega)) HC1 | with_reducible exact (CQ.drew ((H0.out.al _).al _)).rdq (by first | (simp; done) | (simp; omega)) HC1 | fail "none") (one8all _) (by omega) (by first | with_reducible exact (CQ.drew H0.out).ch.bel.size | with_reducible exact (CQ.drew (H0.out.al _)).ch.bel.size | with_reducible exact (CQ.drew ((H0.out.al _).al _)).ch.bel.size | fail "none") ?_
               intro A1 d1 w1 hoj hgj hlj
               first | (with_reducible have H1 := hide ((CQ.drew H0.out).app (M := [127, 1, 65]) hoj hgj hlj)) | (with_reducible have H1 := hide ((CQ.drew (H0.out.al _)).app (M := [127, 1, 65]) hoj hgj hlj)) | (with_reducible have H1 := hide ((CQ.drew ((H0.out.al _).al _)).app (M := [127, 1, 65]) hoj hgj hlj)) | fail "none"
               clear hoj hgj hlj)
            | fail "no arm")
        all_goals
          clear HS
          go_wp2_with fail
          go_roundw
          case rel =>
            refine ⟨k + 1, _, _, _, by omega, by go_num, rfl, hide ⟨?_, ?_, H3.out.ch.bel⟩⟩
            · rw [fm_step HX.out, HN.out.2, HF.out, List.length_append, ← HN.out.1]
              simp
              omega
            · rw [fm_step HX.out, HN.out.2, HF.out]
              have h := H3.out.ch.own
              simpa using h
          case measure => simp [intOf]; omega
    · obtain rfl : k = n := by omega
      go_wp2_with fail
      go_ret
      have h1 := HN.out.2
      rw [fm_full HL.out] at h1
      have h2 := HN.out.1
      rw [← h1] at h2
      have h3 := HO.out
      rw [← h1] at h3
      exact ⟨As, d, by rw [← h2]; rfl, by rw [← h2]; exact h3, HB.out⟩
set_option maxRecDepth 100000 in
set_option maxHeartbeats 4000000 in
theorem sDatas (A : Option Addr) (n c : Nat) (l : List DV) (w : World) (hr : Rd w w.heap.size 2 A n (fl datC l)) (hn : (n : Int) ≤ 60) (hdd : RdD w w.heap.size l) (hq : ∀ x ∈ l, datR x.pl = true) :
    Calls Tryz.prog 31 #[.slice A n c] w (Fresh 5 1 (l.flatMap datV).length (by8 (l.flatMap datV)) w) := by
  have hl := rd_len datL (by omega) hr
  have HQ := hide hq
  have HR := hide hr
  have HB2 := hide (show ∀ k, ((l.take k).flatMap datV).length ≤ 1020000 from fun k => fm_take (K := 17000) (fun x hx => datB_le (hq x hx)) (by omega) (Nat.le_refl _))
  have HL := hide hl
  have HDD := hide hdd
  clear hdd
  clear hr hl
  go_enter Tryz.func31, Tryz.ntmps31
  go_wp2_with fail
  go_loopw [3, 9] (fun s i wr => ∃ (k N : Nat) (As : Option Addr) (d : Nat), k ≤ n ∧ i = .int .i64 k ∧ s = .slice As N d ∧ Hid (SoFar w datV l k As N d wr)) (fun _ i _ => n - (intOf i).toNat)
  case atStart => exact ⟨0, 0, _, _, Nat.zero_le _, rfl, rfl, hide ⟨rfl, own_emptyB w _ 1, (Below.refl _ _).alloc (Nat.le_refl _) _⟩⟩
  case round =>
    obtain ⟨k, N, As, d, hk, rfl, rfl, HF⟩ := hrel
    obtain ⟨hN, ho, hb⟩ := HF.out
    have hNb : (N : Int) ≤ 1020000 := by have := HB2.out k; omega
    have HO := hide ho
    have HB := hide hb
    obtain ⟨L, hLL⟩ : ∃ L, (l.take k).flatMap datV = L := ⟨_, rfl⟩
    rw [hLL] at HO hN
    have HN := hide (And.intro hN hLL)
    clear ho hb hN hLL HF
    by_cases hlt : k < n
    · obtain ⟨b, off, x, rfl, hx, hbb, hcell⟩ := rd_get (wr := wr) datL (by omega) HR.out k hlt (fun p hp => HB.out.cell hp)
      have hi0 : (0 : Int) ≤ k := by omega
      have hi1 : (k : Int) < n := by omega
      have hq := HQ.out x (List.mem_of_getElem? hx)
      obtain ⟨at0, ⟨B, m, q⟩, bs⟩ := x
      have c0 : wr.cell? ⟨b, off + k * 2, none⟩ = some (.int .i64 at0) := hcell 0 _ rfl
      have c1 : wr.cell? ⟨b, off + k * 2 + 1, none⟩ = some (.slice B m q) := hcell 1 _ rfl
      have HX := hide hx
      clear hcell hx
      have hm := (HDD.out _ (List.mem_of_getElem? HX.out)).1
      have HRD := hide (HDD.out _ (List.mem_of_getElem? HX.out)).2
      simp only [] at hm HRD
      have hbl := rd_by8 HRD.out
      have hml : (m : Int) ≤ 2000 := by have h := hq; simp only [datR, DV.pl, Bool.and_eq_true] at h; have h2 := of_decide_eq_true h.2; omega
      have hz1 := v7_le at0
      have hz2 := u_le m
      have C1 := hide (show ∀ A n c bs w, Rd w w.heap.size 1 A n (by8 bs) → n ≤ 70368744177664 → Calls Tryz.prog 80 #[.slice A n c, .int .i64 at0] w (Fresh 5 1 (n + (v7 at0).length) (by8 (bs ++ v7 at0)) w) from fun A n c bs w hr hn => sPutS A n c bs at0 w hr hn)
      have C2 := hide (show ∀ A n c bs w, Rd w w.heap.size 1 A n (by8 bs) → n ≤ 70368744177664 → Calls Tryz.prog 77 #[.slice A n c, .int .i64 (m : Int)] w (Fresh 5 1 (n + (u (m : Int)).length) (by8 (bs ++ u (m : Int))) w) from fun A n c bs w hr hn => sPutU A n c bs (m : Int) w hr hn)
      have HF : Hid (datV ⟨at0, (B, m, q), bs⟩ = 0 :: 65 :: (v7 at0 ++ 11 :: (u m ++ bs))) := hide (by rw [← hbl]; rfl)
      obtain ⟨P1, hP1⟩ : ∃ P1, v7 at0 = P1 := ⟨_, rfl⟩
      obtain ⟨P2, hP2⟩ : ∃ P2, u (m : Int) = P2 := ⟨_, rfl⟩
      rw [hP1] at C1 hz1 HF
      rw [hP2] at C2 hz2 HF
      have HBL := hide hbl
      clear hP1 hP2 hq hbl hm
      obtain ⟨r, hrr⟩ : ∃ r, wr.heap.size = r := ⟨_, rfl⟩
      have H0 := hide ((CQ.mk0 (HB.out.alloc HB.out.size (.cells #[.int .i64 at0, .slice B m q] 93)) (Blk.new wr #[.int .i64 at0, .slice B m q] 93) (World.ownsRow.alloc HO.out _) (by decide)))
      rw [hrr] at H0
      have HS := hide (show ∀ W, Blk W r #[.int .i64 at0, .slice B m q] 93 → W.cell? ⟨r, 0, none⟩ = some (.int .i64 at0) ∧ W.cell? ⟨r, 1, none⟩ = some (.slice B m q) from fun W h => ⟨h.cell 0, h.cell 1⟩)
      have HC1 : Hid (((#[.int .u8 0, .int .u8 65] : Array Value)).toList = by8 [0, 65] ∧ ([0, 65] : List Int).length = 2) := hide ⟨rfl, rfl⟩
      have HC3 : Hid (((#[.int .u8 11] : Array Value)).toList = by8 [11] ∧ ([11] : List Int).length = 1) := hide ⟨rfl, rfl⟩
      go_upto_region 5 with fail
      go_region_held2 (fun W => W.cell? ⟨r, 0, none⟩ = some (.int .i64 at0) ∧ W.cell? ⟨r, 1, none⟩ = some (.slice B m q)) (first | with_reducible exact HS.out _ H5.out.ch.box | with_reducible exact HS.out _ (H5.out.al _).ch.box | with_reducible exact HS.out _ ((H5.out.al _).al _).ch.box | with_reducible exact HS.out _ H4.out.ch.box | with_reducible exact HS.out _ (H4.out.al _).ch.box | with_reducible exact HS.out _ ((H4.out.al _).al _).ch.box | with_reducible exact HS.out _ H3.out.ch.box | with_reducible exact HS.out _ (H3.out.al _).ch.box | with_reducible exact HS.out _ ((H3.out.al _).al _).ch.box | with_reducible exact HS.out _ H2.out.ch.box | with_reducible exact HS.out _ (H2.out.al _).ch.box | with_reducible exact HS.out _ ((H2.out.al _).al _).ch.box | with_reducible exact HS.out _ H1.out.ch.box | with_reducible exact HS.out _ (H1.out.al _).ch.box | with_reducible exact HS.out _ ((H1.out.al _).al _).ch.box | with_reducible exact HS.out _ (CQ.drew H0.out).ch.box | with_reducible exact HS.out _ (CQ.drew (H0.out.al _)).ch.box | with_reducible exact HS.out _ (CQ.drew ((H0.out.al _).al _)).ch.box) (first
          | (have h0 := H4
             refine stepA (xs := by8 ((((L ++ [0, 65]) ++ P1) ++ [11]) ++ P2)) (ys := by8 bs) rfl _ _ rfl rfl rfl E8 (by first | with_reducible exact H4.out.ch.own | with_reducible exact (H4.out.al _).ch.own | with_reducible exact ((H4.out.al _).al _).ch.own | fail "none") (by first | with_reducible exact (Rd.bel HRD.out H4.out.ch.bel) | with_reducible exact (Rd.bel HRD.out (H4.out.al _).ch.bel) | with_reducible exact (Rd.bel HRD.out ((H4.out.al _).al _).ch.bel) | fail "none") (one8all _) (by omega) (by first | with_reducible exact H4.out.ch.bel.size | with_reducible exact (H4.out.al _).ch.bel.size | with_reducible exact ((H4.out.al _).al _).ch.bel.size | fail "none") ?_
             intro A5 d5 w5 hoj hgj hlj
             first | (with_reducible have H5 := hide (H4.out.app (M := bs) hoj hgj hlj)) | (with_reducible have H5 := hide ((H4.out.al _).app (M := bs) hoj hgj hlj)) | (with_reducible have H5 := hide (((H4.out.al _).al _).app (M := bs) hoj hgj hlj)) | fail "none"
             clear hoj hgj hlj)
          | (have h0 := H3
             go_at_call 77
             refine (C2.out A3 (N + 2 + P1.length + 1) d3 (((L ++ [0, 65]) ++ P1) ++ [11]) _ (by first | with_reducible exact H3.out.ch.own.rd | with_reducible exact (H3.out.al _).ch.own.rd | with_reducible exact ((H3.out.al _).al _).ch.own.rd | fail "none") (by omega)).mono ?_
             rintro e w4 ⟨A4, d4, rfl, hoj, hbj⟩
             first | (with_reducible have H4 := hide (H3.out.call hoj hbj)) | (with_reducible have H4 := hide ((H3.out.al _).call hoj hbj)) | (with_reducible have H4 := hide (((H3.out.al _).al _).call hoj hbj)) | fail "none"
             clear hoj hbj)
          | (have h0 := H2
             refine stepA (xs := by8 ((L ++ [0, 65]) ++ P1)) (ys := by8 [11]) rfl _ _ rfl rfl rfl E8 (by first | with_reducible exact H2.out.ch.own | with_reducible exact (H2.out.al _).ch.own | with_reducible exact ((H2.out.al _).al _).ch.own | fail "none") (by first | with_reducible exact H2.out.rdq (by first | (simp; done) | (simp; omega)) HC3 | with_reducible exact (H2.out.al _).rdq (by first | (simp; done) | (simp; omega)) HC3 | with_reducible exact ((H2.out.al _).al _).rdq (by first | (simp; done) | (simp; omega)) HC3 | fail "none") (one8all _) (by omega) (by first | with_reducible exact H2.out.ch.bel.size | with_reducible exact (H2.out.al _).ch.bel.size | with_reducible exact ((H2.out.al _).al _).ch.bel.size | fail "none") ?_
             intro A3 d3 w3 hoj hgj hlj
             first | (with_reducible have H3 := hide (H2.out.app (M := [11]) hoj hgj hlj)) | (with_reducible have H3 := hide ((H2.out.al _).app (M := [11]) hoj hgj hlj)) | (with_reducible have H3 := hide (((H2.out.al _).al _).app (M := [11]) hoj hgj hlj)) | fail "none"
             clear hoj hgj hlj)
          | (have h0 := H1
             go_at_call 80
             refine (C1.out A1 (N + 2) d1 (L ++ [0, 65]) _ (by first | with_reducible exact H1.out.ch.own.rd | with_reducible exact (H1.out.al _).ch.own.rd | with_reducible exact ((H1.out.al _).al _).ch.own.rd | fail "none") (by omega)).mono ?_
             rintro e w2 ⟨A2, d2, rfl, hoj, hbj⟩
             first | (with_reducible have H2 := hide (H1.out.call hoj hbj)) | (with_reducible have H2 := hide ((H1.out.al _).call hoj hbj)) | (with_reducible have H2 := hide (((H1.out.al _).al _).call hoj hbj)) | fail "none"
             clear hoj hbj)
          | (have h0 := H0
             refine stepA (xs := by8 L) (ys := by8 [0, 65]) rfl _ _ rfl rfl rfl E8 (by first | with_reducible exact (CQ.drew H0.out).ch.own | with_reducible exact (CQ.drew (H0.out.al _)).ch.own | with_reducible exact (CQ.drew ((H0.out.al _).al _)).ch.own | fail "none") (by first | with_reducible exact (CQ.drew H0.out).rdq (by first | (simp; done) | (simp; omega)) HC1 | with_reducible exact (CQ.drew (H0.out.al _)).rdq (by first | (simp; done) | (simp; omega)) HC1 | with_reducible exact (CQ.drew ((H0.out.al _).al _)).rdq (by first | (simp; done) | (simp; omega)) HC1 | fail "none") (one8all _) (by omega) (by first | with_reducible exact (CQ.drew H0.out).ch.bel.size | with_reducible exact (CQ.drew (H0.out.al _)).ch.bel.size | with_reducible exact (CQ.drew ((H0.out.al _).al _)).ch.bel.size | fail "none") ?_
             intro A1 d1 w1 hoj hgj hlj
             first | (with_reducible have H1 := hide ((CQ.drew H0.out).app (M := [0, 65]) hoj hgj hlj)) | (with_reducible have H1 := hide ((CQ.drew (H0.out.al _)).app (M := [0, 65]) hoj hgj hlj)) | (with_reducible have H1 := hide ((CQ.drew ((H0.out.al _).al _)).app (M := [0, 65]) hoj hgj hlj)) | fail "none"
             clear hoj hgj hlj)
          | fail "no arm")
      all_goals
        clear HS
        go_wp2_with fail
        go_roundw
        case rel =>
          refine ⟨k + 1, _, _, _, by omega, by go_num, rfl, hide ⟨?_, ?_, H5.out.ch.bel⟩⟩
          · rw [fm_step HX.out, HN.out.2, HF.out, List.length_append, ← HN.out.1]
            simp
            have := HBL.out
            omega
          · rw [fm_step HX.out, HN.out.2, HF.out]
            have h := H5.out.ch.own
            simpa using h
        case measure => simp [intOf]; omega
    · obtain rfl : k = n := by omega
      go_wp2_with fail
      go_ret
      have h1 := HN.out.2
      rw [fm_full HL.out] at h1
      have h2 := HN.out.1
      rw [← h1] at h2
      have h3 := HO.out
      rw [← h1] at h3
      exact ⟨As, d, by rw [← h2]; rfl, by rw [← h2]; exact h3, HB.out⟩
end Go.Proofs.YtiinkfejdnfonaaGreatDoor.Mb
