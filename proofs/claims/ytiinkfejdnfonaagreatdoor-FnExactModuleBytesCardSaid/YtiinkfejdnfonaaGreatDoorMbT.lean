/- The reference's writers of signatures, functions, memory and sections: a contract each. -/
import Derived.Test.YtiinkfejdnfonaaGreatDoorMbC
namespace Go.Proofs.YtiinkfejdnfonaaGreatDoor.Mb
open Go.RowKit Go.Proofs.YtiinkfejdnfonaaGreatDoor.Num Go.Proofs.YtiinkfejdnfonaaGreatDoor.NumC Go.Proofs.YtiinkfejdnfonaaGreatDoor.Mem Go.Proofs.YtiinkfejdnfonaaGreatDoor.Shape Go.Proofs.YtiinkfejdnfonaaGreatDoor.Utf Go.Proofs.YtiinkfejdnfonaaGreatDoor.Ops Go.Proofs.YtiinkfejdnfonaaGreatDoor.Leb Go.Proofs.YtiinkfejdnfonaaGreatDoor.Mo Go.Proofs.YtiinkfejdnfonaaGreatDoor.Bb Go.Proofs.YtiinkfejdnfonaaGreatDoor.NameC Go.Proofs.YtiinkfejdnfonaaGreatDoor.PutC
set_option linter.unusedVariables false
theorem rep_0 : List.replicate 0 (127 : Int) = [] := rfl
theorem rep_s (j : Nat) (L : List Int) : L ++ List.replicate (j + 1) (127 : Int) = (L ++ List.replicate j 127) ++ [127] := by rw [List.append_assoc, ← List.replicate_succ']
set_option maxRecDepth 100000 in
set_option maxHeartbeats 4000000 in
theorem sSigs (A : Option Addr) (n c : Nat) (l : List Sig2) (w : World) (hr : Rd w w.heap.size 2 A n (fl sigC l)) (hn : (n : Int) ≤ 60) (hq : ∀ x ∈ l, sigR x = true) :
    Calls Tryz.prog 26 #[.slice A n c] w (Fresh 5 1 (l.flatMap sigB).length (by8 (l.flatMap sigB)) w) := by
  have hl := rd_len sigL (by omega) hr
  have HQ := hide hq
  have HR := hide hr
  have HB2 := hide (show ∀ k, ((l.take k).flatMap sigB).length ≤ 1020000 from fun k => fm_take (K := 17000) (fun x hx => sigB_le (hq x hx)) (by omega) (Nat.le_refl _))
  have HL := hide hl
  clear hr hl hq
  go_enter Tryz.func26, Tryz.ntmps26
  go_wp2_with fail
  go_loopw [3, 11] (fun s i wr => ∃ (k N : Nat) (As : Option Addr) (d : Nat), k ≤ n ∧ i = .int .i64 k ∧ s = .slice As N d ∧ Hid (SoFar w sigB l k As N d wr)) (fun _ i _ => n - (intOf i).toNat)
  case atStart => exact ⟨0, 0, _, _, Nat.zero_le _, rfl, rfl, hide ⟨rfl, own_emptyB w _ 1, (Below.refl _ _).alloc (Nat.le_refl _) _⟩⟩
  case round =>
    obtain ⟨k, N, As, d, hk, rfl, rfl, HF⟩ := hrel
    obtain ⟨hN, ho, hb⟩ := HF.out
    have hNb : (N : Int) ≤ 1020000 := by have := HB2.out k; omega
    have HO := hide ho
    have HB := hide hb
    obtain ⟨L, hLL⟩ : ∃ L, (l.take k).flatMap sigB = L := ⟨_, rfl⟩
    rw [hLL] at HO hN
    have HN := hide (And.intro hN hLL)
    clear ho hb hN hLL HF
    by_cases hlt : k < n
    · obtain ⟨b, off, x, rfl, hx, hbb, hcell⟩ := rd_get (wr := wr) sigL (by omega) HR.out k hlt (fun p hp => HB.out.cell hp)
      have hi0 : (0 : Int) ≤ k := by omega
      have hi1 : (k : Int) < n := by omega
      have hq := HQ.out x (List.mem_of_getElem? hx)
      obtain ⟨p, q⟩ := x
      have c0 : wr.cell? ⟨b, off + k * 2, none⟩ = some (.int .i64 p) := hcell 0 _ rfl
      have c1 : wr.cell? ⟨b, off + k * 2 + 1, none⟩ = some (.int .i64 q) := hcell 1 _ rfl
      have HX := hide hx
      clear hcell hx
      simp only [sigR, inR, Bool.and_eq_true, decide_eq_true_eq] at hq
      obtain ⟨⟨hp0, hp1⟩, hq0, hq1⟩ := hq
      have hz1 := u_le p
      have hz2 := u_le q
      have C1 := hide (show ∀ A n c bs w, Rd w w.heap.size 1 A n (by8 bs) → n ≤ 70368744177664 → Calls Tryz.prog 77 #[.slice A n c, .int .i64 p] w (Fresh 5 1 (n + (u p).length) (by8 (bs ++ u p)) w) from fun A n c bs w hr hn => sPutU A n c bs p w hr hn)
      have C2 := hide (show ∀ A n c bs w, Rd w w.heap.size 1 A n (by8 bs) → n ≤ 70368744177664 → Calls Tryz.prog 77 #[.slice A n c, .int .i64 q] w (Fresh 5 1 (n + (u q).length) (by8 (bs ++ u q)) w) from fun A n c bs w hr hn => sPutU A n c bs q w hr hn)
      have HF : Hid (sigB (p, q) = 96 :: ((u p ++ rep p) ++ (u q ++ rep q))) := hide rfl
      obtain ⟨P1, hP1⟩ : ∃ P1, u p = P1 := ⟨_, rfl⟩
      obtain ⟨P2, hP2⟩ : ∃ P2, u q = P2 := ⟨_, rfl⟩
      rw [hP1] at C1 HF hz1
      rw [hP2] at C2 HF hz2
      clear hP1 hP2
      obtain ⟨r, hrr⟩ : ∃ r, wr.heap.size = r := ⟨_, rfl⟩
      have H0 := hide ((CQ.mk0 (HB.out.alloc HB.out.size (.cells #[.int .i64 p, .int .i64 q] 77)) (Blk.new wr #[.int .i64 p, .int .i64 q] 77) (World.ownsRow.alloc HO.out _) (by decide)))
      rw [hrr] at H0
      have HS := hide (show ∀ W, Blk W r #[.int .i64 p, .int .i64 q] 77 → W.cell? ⟨r, 0, none⟩ = some (.int .i64 p) from fun W h => h.cell 0)
      have HC1 : Hid (((#[.int .u8 96] : Array Value)).toList = by8 [96] ∧ ([96] : List Int).length = 1) := hide ⟨rfl, rfl⟩
      go_upto_region 5 with fail
      go_region_held2 (fun W => W.cell? ⟨r, 0, none⟩ = some (.int .i64 p)) (first | with_reducible exact HS.out _ H2.out.ch.box | with_reducible exact HS.out _ (H2.out.al _).ch.box | with_reducible exact HS.out _ ((H2.out.al _).al _).ch.box | with_reducible exact HS.out _ H1.out.ch.box | with_reducible exact HS.out _ (H1.out.al _).ch.box | with_reducible exact HS.out _ ((H1.out.al _).al _).ch.box | with_reducible exact HS.out _ (CQ.drew H0.out).ch.box | with_reducible exact HS.out _ (CQ.drew (H0.out.al _)).ch.box | with_reducible exact HS.out _ (CQ.drew ((H0.out.al _).al _)).ch.box) (first
          | (have h0 := H1
             go_at_call 77
             refine (C1.out A1 (N + 1) d1 (L ++ [96]) _ (by first | with_reducible exact H1.out.ch.own.rd | with_reducible exact (H1.out.al _).ch.own.rd | with_reducible exact ((H1.out.al _).al _).ch.own.rd | fail "none") (by omega)).mono ?_
             rintro e w2 ⟨A2, d2, rfl, hoj, hbj⟩
             first | (with_reducible have H2 := hide (H1.out.call hoj hbj)) | (with_reducible have H2 := hide ((H1.out.al _).call hoj hbj)) | (with_reducible have H2 := hide (((H1.out.al _).al _).call hoj hbj)) | fail "none"
             clear hoj hbj)
          | (have h0 := H0
             refine stepA (xs := by8 L) (ys := by8 [96]) rfl _ _ rfl rfl rfl E8 (by first | with_reducible exact (CQ.drew H0.out).ch.own | with_reducible exact (CQ.drew (H0.out.al _)).ch.own | with_reducible exact (CQ.drew ((H0.out.al _).al _)).ch.own | fail "none") (by first | with_reducible exact (CQ.drew H0.out).rdq (by first | (simp; done) | (simp; omega)) HC1 | with_reducible exact (CQ.drew (H0.out.al _)).rdq (by first | (simp; done) | (simp; omega)) HC1 | with_reducible exact (CQ.drew ((H0.out.al _).al _)).rdq (by first | (simp; done) | (simp; omega)) HC1 | fail "none") (one8all _) (by omega) (by first | with_reducible exact (CQ.drew H0.out).ch.bel.size | with_reducible exact (CQ.drew (H0.out.al _)).ch.bel.size | with_reducible exact (CQ.drew ((H0.out.al _).al _)).ch.bel.size | fail "none") ?_
             intro A1 d1 w1 hoj hgj hlj
             first | (with_reducible have H1 := hide ((CQ.drew H0.out).app (M := [96]) hoj hgj hlj)) | (with_reducible have H1 := hide ((CQ.drew (H0.out.al _)).app (M := [96]) hoj hgj hlj)) | (with_reducible have H1 := hide ((CQ.drew ((H0.out.al _).al _)).app (M := [96]) hoj hgj hlj)) | fail "none"
             clear hoj hgj hlj)
          | fail "no arm")
      clear HS
      have H2b := hide H2.out.ch
      clear H2 H1 H0
      go_wp2_with fail
      go_loopw [3, 6] (fun s i wq => ∃ (ja : Nat) (As : Option Addr) (d : Nat), (ja : Int) ≤ p ∧ i = .int .i64 ja ∧ s = .slice As ((N + 1 + P1.length) + ja) d ∧ Hid (CH w r #[.int .i64 p, .int .i64 q] 77 As ((N + 1 + P1.length) + ja) d (((L ++ [96]) ++ P1) ++ List.replicate ja 127) wq)) (fun _ i _ => (p - intOf i).toNat)
      case atStart => exact ⟨0, A2, d2, by omega, rfl, rfl, hide (by rw [rep_0, List.append_nil]; exact H2b.out)⟩
      case round =>
        obtain ⟨ja, Asa, dsa, hja, rfl, rfl, HIa⟩ := hrel
        have cca : wr.cell? ⟨r, 0, none⟩ = some (.int .i64 p) := HIa.out.box.cell 0
        by_cases hlta : (ja : Int) < p
        · go_wp2_with (at_builtin; refine app1 rfl _ _ rfl rfl rfl E8 HIa.out.own rfl (one8 _) (by omega) HIa.out.bel.size ?_; intro B3 d3 w3 ho3 hg3 hl3)
          go_roundw
          case rel =>
            refine ⟨ja + 1, B3, d3, by omega, by go_num, by congr 1, hide ?_⟩
            rw [rep_s]
            exact HIa.out.app (M := [127]) ho3 hg3
          case measure => simp [intOf]; omega
        · have HEa := hide (show p = ((ja : Nat) : Int) by omega)
          have cq1 : wr.cell? ⟨r, 1, none⟩ = some (.int .i64 q) := HIa.out.box.cell 1
          go_wp2_with fail
          refine (C2.out Asa (N + 1 + P1.length + ja) dsa ((L ++ [96]) ++ P1 ++ List.replicate ja 127) wr HIa.out.own.rd (by omega)).mono ?_
          rintro e w6 ⟨A6, d6, rfl, ho6, hb6⟩
          have H6 := hide (HIa.out.call ho6 hb6)
          clear ho6 hb6 cq1 HIa
          go_wp2_with fail
          go_loopw [3, 7] (fun s i wp => ∃ (jb : Nat) (As : Option Addr) (d : Nat), (jb : Int) ≤ q ∧ i = .int .i64 jb ∧ s = .slice As ((N + 1 + P1.length + ja + P2.length) + jb) d ∧ Hid (CH w r #[.int .i64 p, .int .i64 q] 77 As ((N + 1 + P1.length + ja + P2.length) + jb) d (((L ++ [96]) ++ P1 ++ List.replicate ja 127 ++ P2) ++ List.replicate jb 127) wp)) (fun _ i _ => (q - intOf i).toNat)
          case atStart => exact ⟨0, A6, d6, by omega, rfl, rfl, hide (by rw [rep_0, List.append_nil]; exact H6.out)⟩
          case round =>
            obtain ⟨jb, Asb, dsb, hjb, rfl, rfl, HIb⟩ := hrel
            have ccb : wr.cell? ⟨r, 1, none⟩ = some (.int .i64 q) := HIb.out.box.cell 1
            by_cases hltb : (jb : Int) < q
            · go_wp2_with (at_builtin; refine app1 rfl _ _ rfl rfl rfl E8 HIb.out.own rfl (one8 _) (by omega) HIb.out.bel.size ?_; intro B3 d3 w3 ho3 hg3 hl3)
              go_roundw
              case rel =>
                refine ⟨jb + 1, B3, d3, by omega, by go_num, by congr 1, hide ?_⟩
                rw [rep_s]
                exact HIb.out.app (M := [127]) ho3 hg3
              case measure => simp [intOf]; omega
            · have HEb := hide (show q = ((jb : Nat) : Int) by omega)
              go_wp2_with fail
              go_roundw
              case rel =>
                refine ⟨k + 1, _, _, _, by omega, by go_num, rfl, hide ⟨?_, ?_, HIb.out.bel⟩⟩
                · rw [fm_step HX.out, HN.out.2, HF.out, List.length_append, ← HN.out.1]
                  have e1 : p.toNat = ja := by have := HEa.out; omega
                  have e2 : q.toNat = jb := by have := HEb.out; omega
                  simp [rep, e1, e2]
                  omega
                · rw [fm_step HX.out, HN.out.2, HF.out]
                  have h := HIb.out.own
                  have e1 : p.toNat = ja := by have := HEa.out; omega
                  have e2 : q.toNat = jb := by have := HEb.out; omega
                  simpa [rep, e1, e2] using h
              case measure => simp [intOf]; omega
    · obtain rfl : k = n := by omega
      go_wp2_with fail
      go_ret
      have h1 := HN.out.2
      rw [fm_full HL.out] at h1
      have h2 := HN.out.1
      rw [← h1] at h2
      have h3 := HO.out
      rw [← h1] at h3
      exact ⟨As, d, by rw [← h2]; rfl, by rw [← h2]; exact h3, HB.out⟩
end Go.Proofs.YtiinkfejdnfonaaGreatDoor.Mb
