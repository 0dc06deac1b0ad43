/- The program's small writers: header, section, kinds, a global, a row of data: a contract each. -/
import Derived.Test.YtiinkfejdnfonaaGreatDoorMbC
namespace Go.Proofs.YtiinkfejdnfonaaGreatDoor.Mb
open Go.RowKit Go.Proofs.YtiinkfejdnfonaaGreatDoor.Num Go.Proofs.YtiinkfejdnfonaaGreatDoor.NumC Go.Proofs.YtiinkfejdnfonaaGreatDoor.Mem Go.Proofs.YtiinkfejdnfonaaGreatDoor.Shape Go.Proofs.YtiinkfejdnfonaaGreatDoor.Utf Go.Proofs.YtiinkfejdnfonaaGreatDoor.Ops Go.Proofs.YtiinkfejdnfonaaGreatDoor.Leb Go.Proofs.YtiinkfejdnfonaaGreatDoor.Mo Go.Proofs.YtiinkfejdnfonaaGreatDoor.Bb Go.Proofs.YtiinkfejdnfonaaGreatDoor.NameC Go.Proofs.YtiinkfejdnfonaaGreatDoor.PutC
set_option linter.unusedVariables false
theorem wrap8i {x : Int} (h0 : 0 ≤ x) (h1 : x ≤ 255) : IntKind.u8.wrap x = x := by rw [IntKind.wrap_u8]; omega
theorem nil_put {side : Nat} {k : Int} (h : ∀ A n c bs w, Rd w w.heap.size 1 A n (by8 bs) → n ≤ 70368744177664 → Calls Tryz.prog side #[.slice A n c, .int .i64 k] w (Fresh 5 1 (n + (u k).length) (by8 (bs ++ u k)) w)) :
    ∀ w, Calls Tryz.prog side #[.slice none 0 0, .int .i64 k] w (Fresh 5 1 (u k).length (by8 (u k)) w) := fun w => by
  have h := h none 0 0 [] w Rd.nil (by omega)
  rw [Nat.zero_add, List.nil_append] at h
  exact h
set_option maxRecDepth 100000 in
theorem iHeader (w : World) : Calls Tryz.prog 39 #[] w (Fresh 5 1 headB.length (by8 headB) w) := by
  go_enter Tryz.func39, Tryz.ntmps39
  go_wp2_with fail
  go_ret
  exact ⟨_, _, rfl, World.ownsRow_lit w _ 8 (Nat.le_refl _) (by decide) rfl, (Below.refl _ _).alloc (Nat.le_refl _) _⟩
set_option maxRecDepth 100000 in
set_option maxHeartbeats 4000000 in
theorem iSection (id : Int) (A : Option Addr) (m c : Nat) (I : List Int) (w : World) (hin : Rd w w.heap.size 1 A m (by8 I)) (hm : (m : Int) ≤ 2000000) (h0 : 0 ≤ id) (h1 : id ≤ 255) :
    Calls Tryz.prog 41 #[.int .i64 id, .slice A m c] w (Fresh 5 1 (id :: lenB I).length (by8 (id :: lenB I)) w) := by
  have hml : I.length = m := rd_by8 hin
  obtain ⟨R, hR⟩ : ∃ R, id :: lenB I = R := ⟨_, rfl⟩
  rw [hR]
  have hv := wrap8i h0 h1
  have hz := u_le (m : Int)
  have C1 := hide (show ∀ A n c bs w, Rd w w.heap.size 1 A n (by8 bs) → n ≤ 70368744177664 → Calls Tryz.prog 46 #[.slice A n c, .int .i64 (m : Int)] w (Fresh 5 1 (n + (u (m : Int)).length) (by8 (bs ++ u (m : Int))) w) from fun A n c bs w hr hn => iPutU A n c bs (m : Int) w hr hn)
  have HF : Hid (R = ([id] ++ u (m : Int)) ++ I) := hide (by rw [← hR]; unfold lenB; rw [hml]; rfl)
  clear hR
  obtain ⟨P, hP⟩ : ∃ P, u (m : Int) = P := ⟨_, rfl⟩
  rw [hP] at C1 HF hz
  have HI := hide (hin.bel ((Below.refl w.heap.size w).alloc (Nat.le_refl _) (.cells #[.int .u8 id] 5)))
  have HB1 := hide ((Below.refl w.heap.size w).alloc (Nat.le_refl _) (.cells #[.int .u8 id] 5))
  have HRL := hide (rdlit w (c := #[.int .u8 id]) (M := [id]) (m := 1) ⟨rfl, rfl⟩)
  have HML := hide hml
  clear hin hP hml
  go_enter Tryz.func41, Tryz.ntmps41
  go_wp2_with fail
  refine (C1.out _ 1 1 [id] _ HRL.out (by omega)).mono ?_
  rintro e w2 ⟨A2, d2, rfl, ho2, hb2⟩
  have HO2 := hide (ho2.base_le HB1.out.size)
  have HI2 := hide (HI.out.bel hb2)
  have HB2 := hide (bel_step HB1.out hb2 HB1.out.size)
  clear ho2 hb2
  go_wp2_with (at_builtin; refine app rfl _ _ rfl rfl rfl E8 HO2.out HI2.out (one8all _) (by omega) HB2.out.size ?_; intro A3 d3 w3 ho3 hg3 hl3)
  go_ret
  have e1 : 1 + P.length + m = (([id] ++ P) ++ I).length := by simp [HML.out]; omega
  rw [HF.out, ← e1]
  exact ⟨A3, d3, rfl, by simpa [by8] using ho3, HB2.out.grown hg3 HB2.out.size (fun g hg => (HO2.out.blk_lt g hg).1)⟩
set_option maxRecDepth 100000 in
set_option maxHeartbeats 4000000 in
theorem iKinds (n : Int) (w : World) (h0 : 0 ≤ n) (h1 : n ≤ 60) : Calls Tryz.prog 44 #[.int .i64 n] w (Fresh 5 1 (kindsB n).length (by8 (kindsB n)) w) := by
  have hz := u_le n
  have C1 := hide (nil_put (fun A n' c bs w hr hn => iPutU A n' c bs n w hr hn))
  have HF : Hid (kindsB n = u n ++ rep n) := hide rfl
  have HFK : Hid (Fresh 5 1 (kindsB n).length (by8 (kindsB n)) w = Fresh 5 1 (u n ++ rep n).length (by8 (u n ++ rep n)) w) := hide rfl
  rw [HFK.out]
  have C2 : Hid (∀ w, Calls Tryz.prog 46 #[.slice none 0 0, .int .i64 n] w (Fresh 5 1 (u n).length (by8 (u n)) w)) := hide C1.out
  obtain ⟨P, hP⟩ : ∃ P, u n = P := ⟨_, rfl⟩
  rw [hP] at C2 hz ⊢
  obtain ⟨R, hR⟩ : ∃ R, P ++ rep n = R := ⟨_, rfl⟩
  rw [hR]
  have HRR := hide hR
  clear hP C1 HF HFK hR
  go_enter Tryz.func44, Tryz.ntmps44
  go_wp2_with fail
  refine (C2.out w).mono ?_
  rintro e w1 ⟨A1, d1, rfl, ho, hb⟩
  have HO := hide ho
  have HB := hide hb
  clear ho hb
  go_wp2_with fail
  go_loopw [3, 4] (fun s i wr => ∃ (j : Nat) (As : Option Addr) (d : Nat), (j : Int) ≤ n ∧ i = .int .i64 j ∧ s = .slice As (P.length + j) d ∧ Hid (Ow wr w.heap.size 5 1 As (P.length + j) d (by8 (P ++ List.replicate j 127))) ∧ Hid (Below w.heap.size w wr)) (fun _ i _ => (n - intOf i).toNat)
  case atStart => exact ⟨0, A1, d1, by omega, rfl, rfl, hide (by have h := HO.out; simpa using h), HB⟩
  case round =>
    obtain ⟨j, As, d, hj, rfl, rfl, HO2, HB2⟩ := hrel
    by_cases hlt : (j : Int) < n
    · go_wp2_with (at_builtin; refine app1 rfl _ _ rfl rfl rfl E8 HO2.out rfl (one8 _) (by omega) HB2.out.size ?_; intro B3 d3 w3 ho3 hg3 hl3)
      go_roundw
      case rel =>
        refine ⟨j + 1, B3, d3, by omega, by go_num, by congr 1, hide ?_, hide (bel_grown HB2.out hg3 HB2.out.size (fun g hg => (HO2.out.blk_lt g hg).1))⟩
        rw [List.replicate_succ', ← List.append_assoc]
        show Ow w3 w.heap.size 5 1 B3 (P.length + j + 1) d3 _
        simpa [by8] using ho3
      case measure => simp [intOf]; omega
    · have HE := hide (show n.toNat = j by omega)
      go_wp2_with fail
      go_ret
      have e1 : P.length + j = R.length := by rw [← HRR.out, List.length_append, rep_len, HE.out]
      rw [← e1]
      refine ⟨As, d, rfl, ?_, HB2.out⟩
      rw [← HRR.out]
      unfold rep
      rw [HE.out]
      exact HO2.out
theorem rd_blk {W : World} {q m : Nat} {c : Array Value} {M : List Int} (hk : Blk W q c 5) (hh : c.toList = by8 M ∧ M.length = m) : Rd W W.heap.size 1 (some ⟨q, 0, none⟩) m (by8 M) := by
  obtain ⟨hc, rfl⟩ := hh
  refine ⟨by simp [by8], fun _ => ⟨q, 0, rfl, hk.lt, fun j u hu => ?_⟩⟩
  rw [Nat.zero_add, hk.cell j, ← Array.getElem?_toList, hc]
  exact hu
set_option maxRecDepth 100000 in
set_option maxHeartbeats 4000000 in
theorem iGlobal (mu : Bool) (i : Int) (w : World) : Calls Tryz.prog 51 #[.agg #[.bool mu, .int .i64 i]] w (Fresh 5 1 (gloB (mu, i)).length (by8 (gloB (mu, i))) w) := by
  have hz := v7_le i
  have C1 := hide (show ∀ A n c bs w, Rd w w.heap.size 1 A n (by8 bs) → n ≤ 70368744177664 → Calls Tryz.prog 92 #[.slice A n c, .int .i64 i] w (Fresh 5 1 (n + (v7 i).length) (by8 (bs ++ v7 i)) w) from fun A n c bs w hr hn => iPutS A n c bs i w hr hn)
  obtain ⟨P, hP⟩ : ∃ P, v7 i = P := ⟨_, rfl⟩
  have HP := hide hP
  rw [hP] at C1 hz
  clear hP
  obtain ⟨W0, hW0⟩ : ∃ W0, w.alloc (.cells #[.bool mu, .int .i64 i] 87) = W0 := ⟨_, rfl⟩
  have HB0 := hide (show Below w.heap.size w W0 by rw [← hW0]; exact (Below.refl w.heap.size w).alloc (Nat.le_refl _) _)
  have HK0 := hide (show Blk W0 w.heap.size #[.bool mu, .int .i64 i] 87 by rw [← hW0]; exact Blk.new w _ _)
  have hsz : W0.heap.size = w.heap.size + 1 := by rw [← hW0]; simp
  have HSZ := hide hsz
  have HK1 := hide (HK0.out.alloc (.cells #[.int .u8 127, .int .u8 0, .int .u8 65] 5))
  have HL1 := hide (Blk.new W0 #[.int .u8 127, .int .u8 0, .int .u8 65] 5)
  have HB1 := hide (HB0.out.alloc HB0.out.size (.cells #[.int .u8 127, .int .u8 0, .int .u8 65] 5))
  rw [hsz] at HL1
  have HWW := hide hW0
  rw [← hW0] at HK1 HL1 HB1
  clear hsz hW0
  cases mu
  · have HF : Hid (gloB (false, i) = ([127, 0, 65] ++ P) ++ [11]) := hide (by rw [← HP.out]; simp [gloB])
    have k0 : ((w.alloc (.cells #[.bool false, .int .i64 i] 87)).alloc (.cells #[.int .u8 127, .int .u8 0, .int .u8 65] 5)).cell? ⟨w.heap.size, 0, none⟩ = some (.bool false) := HK1.out.cell 0
    have k1 : ((w.alloc (.cells #[.bool false, .int .i64 i] 87)).alloc (.cells #[.int .u8 127, .int .u8 0, .int .u8 65] 5)).cell? ⟨w.heap.size, 1, none⟩ = some (.int .i64 i) := HK1.out.cell 1
    have HR := hide (rd_blk HL1.out (M := [127, 0, 65]) (m := 3) ⟨rfl, rfl⟩)
    go_enter Tryz.func51, Tryz.ntmps51
    go_wp2_with fail
    refine (C1.out _ 3 3 [127, 0, 65] _ HR.out (by omega)).mono ?_
    rintro e w2 ⟨A2, d2, rfl, ho2, hb2⟩
    have HO2 := hide (ho2.base_le HB1.out.size)
    have HB2 := hide (bel_step HB1.out hb2 HB1.out.size)
    clear ho2 hb2
    go_wp2_with (at_builtin; refine app1 rfl _ _ rfl rfl rfl E8 HO2.out rfl (one8 _) (by omega) HB2.out.size ?_; intro A3 d3 w3 ho3 hg3 hl3)
    go_ret
    have e1 : 3 + P.length + 1 = (([127, 0, 65] ++ P) ++ [11]).length := by simp; omega
    rw [HF.out, ← e1]
    exact ⟨A3, d3, rfl, by simpa [by8] using ho3, HB2.out.grown hg3 HB2.out.size (fun g hg => (HO2.out.blk_lt g hg).1)⟩
  · have HF : Hid (gloB (true, i) = ([127, 1, 65] ++ P) ++ [11]) := hide (by rw [← HP.out]; simp [gloB])
    have k0 : ((w.alloc (.cells #[.bool true, .int .i64 i] 87)).alloc (.cells #[.int .u8 127, .int .u8 0, .int .u8 65] 5)).cell? ⟨w.heap.size, 0, none⟩ = some (.bool true) := HK1.out.cell 0
    have HK2 := hide (HK0.out.alloc (.cells #[.int .u8 127, .int .u8 1, .int .u8 65] 5))
    have HL2 := hide (show Blk (W0.alloc (.cells #[.int .u8 127, .int .u8 1, .int .u8 65] 5)) (w.heap.size + 1) #[.int .u8 127, .int .u8 1, .int .u8 65] 5 by
      have h := Blk.new W0 #[.int .u8 127, .int .u8 1, .int .u8 65] 5
      rwa [HSZ.out] at h)
    have HB2 := hide (HB0.out.alloc HB0.out.size (.cells #[.int .u8 127, .int .u8 1, .int .u8 65] 5))
    have HW := HWW.out
    rw [← HW] at HK2 HL2 HB2
    clear HW
    have l1 : ((w.alloc (.cells #[.bool true, .int .i64 i] 87)).alloc (.cells #[.int .u8 127, .int .u8 0, .int .u8 65] 5)).cell? ⟨w.heap.size + 1, 1, none⟩ = some (.int .u8 0) := HL1.out.cell 1
    have lf : ∀ j, ((w.alloc (.cells #[.bool true, .int .i64 i] 87)).alloc (.cells #[.int .u8 127, .int .u8 0, .int .u8 65] 5)).frozen? ⟨w.heap.size + 1, j, none⟩ = false := fun j => HL1.out.frozen j
    have k1 : ((w.alloc (.cells #[.bool true, .int .i64 i] 87)).alloc (.cells #[.int .u8 127, .int .u8 1, .int .u8 65] 5)).cell? ⟨w.heap.size, 1, none⟩ = some (.int .i64 i) := HK2.out.cell 1
    have HR := hide (rd_blk HL2.out (M := [127, 1, 65]) (m := 3) ⟨rfl, rfl⟩)
    go_enter Tryz.func51, Tryz.ntmps51
    go_wp2_with fail
    refine (C1.out _ 3 3 [127, 1, 65] _ HR.out (by omega)).mono ?_
    rintro e w2 ⟨A2, d2, rfl, ho2, hb2⟩
    have HO2 := hide (ho2.base_le HB2.out.size)
    have HB3 := hide (bel_step HB2.out hb2 HB2.out.size)
    clear ho2 hb2
    go_wp2_with (at_builtin; refine app1 rfl _ _ rfl rfl rfl E8 HO2.out rfl (one8 _) (by omega) HB3.out.size ?_; intro A3 d3 w3 ho3 hg3 hl3)
    go_ret
    have e1 : 3 + P.length + 1 = (([127, 1, 65] ++ P) ++ [11]).length := by simp; omega
    rw [HF.out, ← e1]
    exact ⟨A3, d3, rfl, by simpa [by8] using ho3, HB3.out.grown hg3 HB3.out.size (fun g hg => (HO2.out.blk_lt g hg).1)⟩
set_option maxRecDepth 100000 in
set_option maxHeartbeats 4000000 in
theorem iData (at0 : Int) (B : Option Addr) (m q : Nat) (bs : List Int) (w : World) (hin : Rd w w.heap.size 1 B m (by8 bs)) (hm : (m : Int) ≤ 2000) :
    Calls Tryz.prog 56 #[.agg #[.int .i64 at0, .slice B m q]] w (Fresh 5 1 (datV ⟨at0, (B, m, q), bs⟩).length (by8 (datV ⟨at0, (B, m, q), bs⟩)) w) := by
  have hbl : bs.length = m := rd_by8 hin
  have hz1 := v7_le at0
  have hz2 := u_le (m : Int)
  have C1 := hide (show ∀ A n c bs w, Rd w w.heap.size 1 A n (by8 bs) → n ≤ 70368744177664 → Calls Tryz.prog 92 #[.slice A n c, .int .i64 at0] w (Fresh 5 1 (n + (v7 at0).length) (by8 (bs ++ v7 at0)) w) from fun A n c bs w hr hn => iPutS A n c bs at0 w hr hn)
  have C2 := hide (show ∀ A n c bs w, Rd w w.heap.size 1 A n (by8 bs) → n ≤ 70368744177664 → Calls Tryz.prog 46 #[.slice A n c, .int .i64 (m : Int)] w (Fresh 5 1 (n + (u (m : Int)).length) (by8 (bs ++ u (m : Int))) w) from fun A n c bs w hr hn => iPutU A n c bs (m : Int) w hr hn)
  have HF : Hid (datV ⟨at0, (B, m, q), bs⟩ = ((([0, 65] ++ v7 at0) ++ [11]) ++ u (m : Int)) ++ bs) := hide (by rw [← hbl]; simp [datV, datB, DV.pl])
  obtain ⟨P1, hP1⟩ : ∃ P1, v7 at0 = P1 := ⟨_, rfl⟩
  obtain ⟨P2, hP2⟩ : ∃ P2, u (m : Int) = P2 := ⟨_, rfl⟩
  rw [hP1] at C1 hz1 HF
  rw [hP2] at C2 hz2 HF
  have HRD := hide hin
  have HBL := hide hbl
  clear hP1 hP2 hin hbl
  have HB0 := hide ((Below.refl w.heap.size w).alloc (Nat.le_refl _) (.cells #[.int .i64 at0, .slice B m q] 93))
  have HB1 := hide (show Below w.heap.size w ((w.alloc (.cells #[.int .i64 at0, .slice B m q] 93)).alloc (.cells #[.int .u8 0, .int .u8 65] 5)) from ((Below.refl w.heap.size w).alloc (Nat.le_refl _) _).alloc (by simp) _)
  have HK1 := hide (show Blk ((w.alloc (.cells #[.int .i64 at0, .slice B m q] 93)).alloc (.cells #[.int .u8 0, .int .u8 65] 5)) w.heap.size #[.int .i64 at0, .slice B m q] 93 from (Blk.new w _ _).alloc _)
  have k0 : ((w.alloc (.cells #[.int .i64 at0, .slice B m q] 93)).alloc (.cells #[.int .u8 0, .int .u8 65] 5)).cell? ⟨w.heap.size, 0, none⟩ = some (.int .i64 at0) := HK1.out.cell 0
  have HRL := hide (show Rd ((w.alloc (.cells #[.int .i64 at0, .slice B m q] 93)).alloc (.cells #[.int .u8 0, .int .u8 65] 5)) ((w.alloc (.cells #[.int .i64 at0, .slice B m q] 93)).alloc (.cells #[.int .u8 0, .int .u8 65] 5)).heap.size 1 (some ⟨w.heap.size + 1, 0, none⟩) 2 (by8 [0, 65]) by
    have h := rdlit (w.alloc (.cells #[.int .i64 at0, .slice B m q] 93)) (c := #[.int .u8 0, .int .u8 65]) (M := [0, 65]) (m := 2) ⟨rfl, rfl⟩
    simpa using h)
  have HS := hide (show ∀ W, Blk W w.heap.size #[.int .i64 at0, .slice B m q] 93 → W.cell? ⟨w.heap.size, 1, none⟩ = some (.slice B m q) from fun W h => h.cell 1)
  go_enter Tryz.func56, Tryz.ntmps56
  go_wp2_with fail
  refine (C1.out _ 2 2 [0, 65] _ HRL.out (by omega)).mono ?_
  rintro e w2 ⟨A2, d2, rfl, ho2, hb2⟩
  have HO2 := hide (ho2.base_le HB1.out.size)
  have HB2 := hide (bel_step HB1.out hb2 HB1.out.size)
  have HK2 := hide (HK1.out.bel hb2)
  clear ho2 hb2 k0 HRL HB1 HK1
  go_upto_region 2 with (at_builtin; refine app1 rfl _ _ rfl rfl rfl E8 HO2.out rfl (one8 _) (by omega) HB2.out.size ?_; intro A3 d3 w3 ho3 hg3 hl3)
  have H0 := hide (CQ.mk0 (bel_grown HB2.out hg3 HB2.out.size (fun g hg => (HO2.out.blk_lt g hg).1)) (bgrown HK2.out hg3 (ne_ty HO2.out HK2.out (by decide))) (show Ow w3 w.heap.size 5 1 A3 (2 + P1.length + 1) d3 (by8 (([0, 65] ++ P1) ++ [11])) by simpa [by8] using ho3) (by decide))
  clear ho3 hg3 hl3 HO2 HB2 HK2
  go_region_held2 (fun W => W.cell? ⟨w.heap.size, 1, none⟩ = some (.slice B m q)) (first | with_reducible exact HS.out _ H2.out.ch.box | with_reducible exact HS.out _ (H2.out.al _).ch.box | with_reducible exact HS.out _ ((H2.out.al _).al _).ch.box | with_reducible exact HS.out _ H1.out.ch.box | with_reducible exact HS.out _ (H1.out.al _).ch.box | with_reducible exact HS.out _ ((H1.out.al _).al _).ch.box | with_reducible exact HS.out _ (CQ.drew H0.out).ch.box | with_reducible exact HS.out _ (CQ.drew (H0.out.al _)).ch.box | with_reducible exact HS.out _ (CQ.drew ((H0.out.al _).al _)).ch.box) (first
      | (have h0 := H1
         refine stepA (xs := by8 ((([0, 65] ++ P1) ++ [11]) ++ P2)) (ys := by8 bs) rfl _ _ rfl rfl rfl E8 (by first | with_reducible exact H1.out.ch.own | with_reducible exact (H1.out.al _).ch.own | with_reducible exact ((H1.out.al _).al _).ch.own | fail "none") (by first | with_reducible exact (Rd.bel HRD.out H1.out.ch.bel) | with_reducible exact (Rd.bel HRD.out (H1.out.al _).ch.bel) | with_reducible exact (Rd.bel HRD.out ((H1.out.al _).al _).ch.bel) | fail "none") (one8all _) (by omega) (by first | with_reducible exact H1.out.ch.bel.size | with_reducible exact (H1.out.al _).ch.bel.size | with_reducible exact ((H1.out.al _).al _).ch.bel.size | fail "none") ?_
         intro A2 d2 w2 hoj hgj hlj
         first | (with_reducible have H2 := hide (H1.out.app (M := bs) hoj hgj hlj)) | (with_reducible have H2 := hide ((H1.out.al _).app (M := bs) hoj hgj hlj)) | (with_reducible have H2 := hide (((H1.out.al _).al _).app (M := bs) hoj hgj hlj)) | fail "none"
         clear hoj hgj hlj)
      | (have h0 := H0
         go_at_call 46
         refine (C2.out A3 (2 + P1.length + 1) d3 (([0, 65] ++ P1) ++ [11]) _ (by first | with_reducible exact (CQ.drew H0.out).ch.own.rd | with_reducible exact (CQ.drew (H0.out.al _)).ch.own.rd | with_reducible exact (CQ.drew ((H0.out.al _).al _)).ch.own.rd | fail "none") (by omega)).mono ?_
         rintro e w1 ⟨A1, d1, rfl, hoj, hbj⟩
         first | (with_reducible have H1 := hide ((CQ.drew H0.out).call hoj hbj)) | (with_reducible have H1 := hide ((CQ.drew (H0.out.al _)).call hoj hbj)) | (with_reducible have H1 := hide ((CQ.drew ((H0.out.al _).al _)).call hoj hbj)) | fail "none"
         clear hoj hbj)
      | fail "no arm")
  go_wp2_with fail
  go_ret
  have e1 : 2 + P1.length + 1 + P2.length + m = (((([0, 65] ++ P1) ++ [11]) ++ P2) ++ bs).length := by simp [HBL.out]; omega
  rw [HF.out, ← e1]
  exact ⟨A2, d2, rfl, H2.out.ch.own, H2.out.ch.bel⟩
end Go.Proofs.YtiinkfejdnfonaaGreatDoor.Mb
