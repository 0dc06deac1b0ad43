/- The reference's writer of functions: a contract. -/
import Derived.Test.YtiinkfejdnfonaaGreatDoorMbC
namespace Go.Proofs.YtiinkfejdnfonaaGreatDoor.Mb
open Go.RowKit Go.Proofs.YtiinkfejdnfonaaGreatDoor.Num Go.Proofs.YtiinkfejdnfonaaGreatDoor.NumC Go.Proofs.YtiinkfejdnfonaaGreatDoor.Mem Go.Proofs.YtiinkfejdnfonaaGreatDoor.Shape Go.Proofs.YtiinkfejdnfonaaGreatDoor.Utf Go.Proofs.YtiinkfejdnfonaaGreatDoor.Ops Go.Proofs.YtiinkfejdnfonaaGreatDoor.Leb Go.Proofs.YtiinkfejdnfonaaGreatDoor.Mo Go.Proofs.YtiinkfejdnfonaaGreatDoor.Bb Go.Proofs.YtiinkfejdnfonaaGreatDoor.NameC Go.Proofs.YtiinkfejdnfonaaGreatDoor.PutC
set_option linter.unusedVariables false
theorem ne_more {A B B' : Option Addr} {S : Nat} (hA : ∀ g, blk A = some g → g < S) (hne : blk A = none ∨ blk A ≠ blk B) (hl : blk B' = blk B ∨ ∃ g, blk B' = some g ∧ S ≤ g) : blk A = none ∨ blk A ≠ blk B' := by
  rcases hl with hl | ⟨g, hl, hge⟩
  · rw [hl]; exact hne
  · rcases hb : blk A with _ | a
    · exact .inl rfl
    · refine .inr ?_
      rw [hl]
      intro e
      injection e with e
      have := hA a hb
      omega
/-- what l04Funcs hands back: the signatures' numbers and the code -/
def TwoR (w : World) (X Y : List Int) (e : Ending) (w' : World) : Prop := ∃ (A1 A2 : Option Addr) (d1 d2 : Nat), e = .returned (.tuple #[.slice A1 X.length d1, .slice A2 Y.length d2]) ∧
  Ow w' w.heap.size 5 1 A1 X.length d1 (by8 X) ∧ Ow w' w.heap.size 5 1 A2 Y.length d2 (by8 Y) ∧ Below w.heap.size w w'
set_option maxRecDepth 100000 in
set_option maxHeartbeats 4000000 in
theorem sFuncs (A : Option Addr) (n c S : Nat) (l : List FV) (w : World) (hr : Rd w w.heap.size 3 A n (fl funC l)) (hn : (n : Int) ≤ 60) (hdd : RdF w w.heap.size l) (hq : ∀ x ∈ l, funR S x.pl = true) :
    Calls Tryz.prog 23 #[.slice A n c] w (TwoR w (l.flatMap fsV) (l.flatMap fnV)) := by
  have hl := rd_len funL (by omega) hr
  have HQ := hide hq
  have HR := hide hr
  have HB1 := hide (show ∀ k, ((l.take k).flatMap fsV).length ≤ 1020000 from fun k => fm_take (K := 17000) (fun x _ => fsB_le x.pl) (by omega) (Nat.le_refl _))
  have HB2 := hide (show ∀ k, ((l.take k).flatMap fnV).length ≤ 1020000 from fun k => fm_take (K := 17000) (fun x hx => fnB_le (hq x hx)) (by omega) (Nat.le_refl _))
  have HL := hide hl
  have HDD := hide hdd
  clear hr hl hdd hq
  go_enter Tryz.func23, Tryz.ntmps23
  go_wp2_with fail
  go_loopw [4, 5, 13] (fun s1 s2 i wr => ∃ (k N1 : Nat) (As1 : Option Addr) (ds1 : Nat) (N2 : Nat) (As2 : Option Addr) (ds2 : Nat), k ≤ n ∧ i = .int .i64 k ∧ s1 = .slice As1 N1 ds1 ∧ s2 = .slice As2 N2 ds2 ∧ Hid (SoFar w fsV l k As1 N1 ds1 wr) ∧ Hid (SoFar w fnV l k As2 N2 ds2 wr)) (fun _ _ i _ => n - (intOf i).toNat)
  case atStart =>
    refine ⟨0, 0, _, _, 0, _, _, Nat.zero_le _, rfl, rfl, rfl, hide ⟨rfl, World.ownsRow.alloc (own_emptyB w _ 1) _, ((Below.refl _ _).alloc (Nat.le_refl _) _).alloc (by simp) _⟩, hide ⟨rfl, ?_, ((Below.refl _ _).alloc (Nat.le_refl _) _).alloc (by simp) _⟩⟩
    have h := (own_emptyB (w.alloc (.cells #[] 5)) 5 1).base_le (show w.heap.size ≤ (w.alloc (.cells #[] 5)).heap.size by simp)
    simpa [by8] using h
  case round =>
    obtain ⟨k, N1, As1, ds1, N2, As2, ds2, hk, rfl, rfl, rfl, HF1, HF2⟩ := hrel
    obtain ⟨hN1, ho1, hb1⟩ := HF1.out
    obtain ⟨hN2, ho2, _⟩ := HF2.out
    have hNb1 : (N1 : Int) ≤ 1020000 := by have := HB1.out k; omega
    have hNb2 : (N2 : Int) ≤ 1020000 := by have := HB2.out k; omega
    have HO1 := hide ho1
    have HO2 := hide ho2
    have HB := hide hb1
    obtain ⟨L1, hLL1⟩ : ∃ L1, (l.take k).flatMap fsV = L1 := ⟨_, rfl⟩
    obtain ⟨L2, hLL2⟩ : ∃ L2, (l.take k).flatMap fnV = L2 := ⟨_, rfl⟩
    rw [hLL1] at HO1 hN1
    rw [hLL2] at HO2 hN2
    have HNL := hide (And.intro hN1 (And.intro hLL1 (And.intro hN2 hLL2)))
    clear ho1 ho2 hb1 hN1 hN2 hLL1 hLL2 HF1 HF2
    by_cases hlt : k < n
    · obtain ⟨b, off, x, rfl, hx, hbb, hcell⟩ := rd_get (wr := wr) funL (by omega) HR.out k hlt (fun p hp => HB.out.cell hp)
      have hi0 : (0 : Int) ≤ k := by omega
      have hi1 : (k : Int) < n := by omega
      have hq := HQ.out x (List.mem_of_getElem? hx)
      have hdd := HDD.out x (List.mem_of_getElem? hx)
      obtain ⟨sg, lo, ⟨B, m, q⟩, bd⟩ := x
      have c0 : wr.cell? ⟨b, off + k * 3, none⟩ = some (.int .i64 sg) := hcell 0 _ rfl
      have c1 : wr.cell? ⟨b, off + k * 3 + 1, none⟩ = some (.int .i64 lo) := hcell 1 _ rfl
      have c2 : wr.cell? ⟨b, off + k * 3 + 2, none⟩ = some (.slice B m q) := hcell 2 _ rfl
      have HX := hide hx
      have HRD := hide hdd.2
      have hm : m ≤ 1048576 := hdd.1
      have hbl : bd.length = m := rd_ins HRD.out
      have hFl := full_le bd
      have hb15 : (bd.length : Int) ≤ 1500 := by have h := hq; simp only [funR, bodyR, FV.pl, Bool.and_eq_true] at h; exact of_decide_eq_true h.2.2.2.1
      have C4 := hide (show ∀ W, Rd W W.heap.size 3 B m (insC bd) → Calls Tryz.prog 78 #[.slice B m q] W (Fresh 5 1 (full bd).length (by8 (full bd)) W) from fun W h => sBodyBytes B m q bd W h hm)
      have C1 := hide (show ∀ A n c bs w, Rd w w.heap.size 1 A n (by8 bs) → n ≤ 70368744177664 → Calls Tryz.prog 77 #[.slice A n c, .int .i64 sg] w (Fresh 5 1 (n + (u sg).length) (by8 (bs ++ u sg)) w) from fun A n c bs w hr hn => sPutU A n c bs sg w hr hn)
      have C2 := hide (show ∀ A n c bs w, Rd w w.heap.size 1 A n (by8 bs) → n ≤ 70368744177664 → Calls Tryz.prog 77 #[.slice A n c, .int .i64 lo] w (Fresh 5 1 (n + (u lo).length) (by8 (bs ++ u lo)) w) from fun A n c bs w hr hn => sPutU A n c bs lo w hr hn)
      have hz1 := u_le sg
      have hz2 := u_le lo
      have HFS : Hid (fsV ⟨sg, lo, (B, m, q), bd⟩ = u sg) := hide rfl
      have HFN0 : Hid (fnV ⟨sg, lo, (B, m, q), bd⟩ = u (((if 0 < lo then 1 :: (u lo ++ [127]) else [0]) ++ (full bd ++ [11])).length : Int) ++ ((if 0 < lo then 1 :: (u lo ++ [127]) else [0]) ++ (full bd ++ [11]))) := hide rfl
      obtain ⟨F, hF⟩ : ∃ F, full bd = F := ⟨_, rfl⟩
      obtain ⟨P1, hP1⟩ : ∃ P1, u sg = P1 := ⟨_, rfl⟩
      obtain ⟨P2, hP2⟩ : ∃ P2, u lo = P2 := ⟨_, rfl⟩
      rw [hF] at C4 HFN0 hFl
      rw [hP1] at C1 HFS hz1
      rw [hP2] at C2 HFN0 hz2
      have hFb : (F.length : Int) ≤ 16500 := by omega
      clear hF hP1 hP2 hcell hx hq hdd hm hbl hFl hb15
      obtain ⟨r, hrr⟩ : ∃ r, wr.heap.size = r := ⟨_, rfl⟩
      have HK1 := hide (Blk.new wr #[.int .i64 sg, .int .i64 lo, .slice B m q] 84)
      have HB1a := hide (HB.out.alloc HB.out.size (.cells #[.int .i64 sg, .int .i64 lo, .slice B m q] 84))
      have HO1a := hide (show Ow (wr.alloc (.cells #[.int .i64 sg, .int .i64 lo, .slice B m q] 84)) w.heap.size 5 1 As1 N1 ds1 (by8 L1) from World.ownsRow.alloc HO1.out _)
      have HO2a := hide (show Ow (wr.alloc (.cells #[.int .i64 sg, .int .i64 lo, .slice B m q] 84)) w.heap.size 5 1 As2 N2 ds2 (by8 L2) from World.ownsRow.alloc HO2.out _)
      rw [hrr] at HK1
      go_wp2_with fail
      refine (C1.out As1 N1 ds1 L1 _ HO1a.out.rd (by omega)).mono ?_
      rintro e w2 ⟨GA, gd, rfl, hoG, hbG⟩
      have HG2 := hide (hoG.base_le HB1a.out.size)
      have HD2 := hide (HO2a.out.below hbG (Nat.le_refl _))
      have HB2a := hide (bel_step HB1a.out hbG HB1a.out.size)
      have HK2 := hide (HK1.out.bel hbG)
      clear hoG hbG HO1a HO2a HB1a HK1 HO1 HO2 HB c0 c1 c2
      have HK2a := hide (HK2.out.alloc (.cells #[.int .u8 0] 5))
      have k1 : (w2.alloc (.cells #[.int .u8 0] 5)).cell? ⟨r, 1, none⟩ = some (.int .i64 lo) := HK2a.out.cell 1
      have hg0 := HG2.out.lt
      have hd0 := HD2.out.lt
      have HG2a := hide (show Ow (w2.alloc (.cells #[.int .u8 0] 5)) w.heap.size 5 1 GA (N1 + P1.length) gd (by8 (L1 ++ P1)) from World.ownsRow.alloc HG2.out _)
      have HD2a := hide (show Ow (w2.alloc (.cells #[.int .u8 0] 5)) w.heap.size 5 1 As2 N2 ds2 (by8 L2) from World.ownsRow.alloc HD2.out _)
      have HB2b := hide (HB2a.out.alloc HB2a.out.size (.cells #[.int .u8 0] 5))
      by_cases hlo : 0 < lo
      · have HFN : Hid (fnV ⟨sg, lo, (B, m, q), bd⟩ = u ((((([1] ++ P2) ++ [127]) ++ F) ++ [11]).length : Int) ++ (((([1] ++ P2) ++ [127]) ++ F) ++ [11])) := hide (by
          have e : ((([1] ++ P2) ++ [127]) ++ F) ++ [11] = (1 :: (P2 ++ [127])) ++ (F ++ [11]) := by simp
          rw [e, HFN0.out, if_pos hlo])
        clear HFN0
        have HK2c := hide (HK2a.out.alloc (.cells #[.int .u8 1] 5))
        have k1b : ((w2.alloc (.cells #[.int .u8 0] 5)).alloc (.cells #[.int .u8 1] 5)).cell? ⟨r, 1, none⟩ = some (.int .i64 lo) := HK2c.out.cell 1
        have HG2c := hide (show Ow ((w2.alloc (.cells #[.int .u8 0] 5)).alloc (.cells #[.int .u8 1] 5)) w.heap.size 5 1 GA (N1 + P1.length) gd (by8 (L1 ++ P1)) from World.ownsRow.alloc HG2a.out _)
        have HD2c := hide (show Ow ((w2.alloc (.cells #[.int .u8 0] 5)).alloc (.cells #[.int .u8 1] 5)) w.heap.size 5 1 As2 N2 ds2 (by8 L2) from World.ownsRow.alloc HD2a.out _)
        have HB2c := hide (HB2b.out.alloc HB2b.out.size (.cells #[.int .u8 1] 5))
        have HRL := hide (show Rd ((w2.alloc (.cells #[.int .u8 0] 5)).alloc (.cells #[.int .u8 1] 5)) ((w2.alloc (.cells #[.int .u8 0] 5)).alloc (.cells #[.int .u8 1] 5)).heap.size 1 (some ⟨w2.heap.size + 1, 0, none⟩) 1 (by8 [1]) by
          have h := rdlit (w2.alloc (.cells #[.int .u8 0] 5)) (c := #[.int .u8 1]) (M := [1]) (m := 1) ⟨rfl, rfl⟩
          simpa using h)
        clear HK2 HK2a HG2 HD2 HB2a HG2a HD2a HB2b
        go_wp2_with fail
        refine (C2.out _ 1 1 [1] _ HRL.out (by omega)).mono ?_
        rintro e w3 ⟨A3, d3, rfl, ho3, hb3⟩
        have HO3 := hide (ho3.base_le HB2c.out.size)
        have HG3 := hide (HG2c.out.below hb3 (Nat.le_refl _))
        have HD3 := hide (HD2c.out.below hb3 (Nat.le_refl _))
        have HB3 := hide (bel_step HB2c.out hb3 HB2c.out.size)
        have HK3 := hide (HK2c.out.bel hb3)
        have hNG3 : blk GA = none ∨ blk GA ≠ blk A3 := blk_ne HG2c.out.lt ho3.ge
        have hND3 : blk As2 = none ∨ blk As2 ≠ blk A3 := blk_ne HD2c.out.lt ho3.ge
        have HN3 := hide (And.intro hNG3 hND3)
        clear ho3 hb3 HRL HG2c HD2c HB2c HK2c k1 k1b hg0 hd0 hNG3 hND3
        go_upto_region 10 with (at_builtin; refine app1 rfl _ _ rfl rfl rfl E8 HO3.out rfl (one8 _) (by omega) HB3.out.size ?_; intro A4 d4 w4 ho4 hg4 hl4)
        have HIx := hide (show Ow w4 w.heap.size 5 1 A4 (1 + P2.length + 1) d4 (by8 (([1] ++ P2) ++ [127])) by simpa [by8] using ho4)
        have HGx := hide (HG3.out.kept hg4 HN3.out.1)
        have HDx := hide (HD3.out.kept hg4 HN3.out.2)
        have HBx := hide (bel_grown HB3.out hg4 HB3.out.size (fun g hg => (HO3.out.blk_lt g hg).1))
        have HKx := hide (bgrown HK3.out hg4 (ne_ty HO3.out HK3.out (by decide)))
        have hNG := ne_more (A := GA) HG3.out.lt HN3.out.1 hl4
        have hND := ne_more (A := As2) HD3.out.lt HN3.out.2 hl4
        clear ho4 hg4 hl4 HO3 HG3 HD3 HB3 HK3 HN3
        have kb : w4.cell? ⟨r, 2, none⟩ = some (.slice B m q) := HKx.out.cell 2
        go_wp2_with fail
        refine (C4.out w4 (HRD.out.bel HBx.out)).mono ?_
        rintro e w5 ⟨AF, dF, rfl, hof, hbf⟩
        have HI5 := hide (HIx.out.below hbf (Nat.le_refl _))
        have HG5 := hide (HGx.out.below hbf (Nat.le_refl _))
        have HD5 := hide (HDx.out.below hbf (Nat.le_refl _))
        have HB5 := hide (bel_step HBx.out hbf HBx.out.size)
        have HF5 := hide hof
        have HN5 := hide (show ∀ g, blk A4 = some g → blk AF ≠ some g from fun g hg he => by have h1 := (HIx.out.blk_lt g hg).2; have h2 := (hof.blk_lt g he).1; omega)
        have HNG := hide (show blk GA = none ∨ blk GA ≠ blk A4 from hNG)
        have HND := hide (show blk As2 = none ∨ blk As2 ≠ blk A4 from hND)
        clear hof hbf kb HIx HGx HDx HKx HBx hNG hND
        go_wp2_with (first
          | (have h0 := HI6
             at_builtin; refine app1 rfl _ _ rfl rfl rfl E8 HI6.out rfl (one8 _) (by omega) HB6.out.size ?_; intro A7 d7 w7 ho7 hg7 hl7
             have HI7 := hide (show Ow w7 w.heap.size 5 1 A7 ((1 + P2.length + 1) + F.length + 1) d7 (by8 (((([1] ++ P2) ++ [127]) ++ F) ++ [11])) by simpa [by8] using ho7)
             have HG7 := hide (HG6.out.kept hg7 HNG6.out)
             have HD7 := hide (HD6.out.kept hg7 HND6.out)
             have HB7 := hide (bel_grown HB6.out hg7 HB6.out.size (fun g hg => (HI6.out.blk_lt g hg).1))
             clear ho7 hg7 hl7)
          | (at_builtin; refine app rfl _ _ rfl rfl rfl E8 HI5.out HF5.out.rd (one8all _) (by omega) HB5.out.size ?_; intro A6 d6 w6 ho6 hg6 hl6
             have HI6 := hide (show Ow w6 w.heap.size 5 1 A6 ((1 + P2.length + 1) + F.length) d6 (by8 ((([1] ++ P2) ++ [127]) ++ F)) by simpa [by8] using ho6)
             have HG6 := hide (HG5.out.kept hg6 HNG.out)
             have HD6 := hide (HD5.out.kept hg6 HND.out)
             have HB6 := hide (bel_grown HB5.out hg6 HB5.out.size (fun g hg => (HI5.out.blk_lt g hg).1))
             have HNG6 := hide (ne_more (A := GA) HG5.out.lt HNG.out hl6)
             have HND6 := hide (ne_more (A := As2) HD5.out.lt HND.out hl6)
             clear ho6 hg6 hl6))
        have C3 := hide (show ∀ A n c bs w, Rd w w.heap.size 1 A n (by8 bs) → n ≤ 70368744177664 → Calls Tryz.prog 77 #[.slice A n c, .int .i64 (((1 + P2.length + 1) + F.length + 1 : Nat) : Int)] w (Fresh 5 1 (n + (u (((1 + P2.length + 1) + F.length + 1 : Nat) : Int)).length) (by8 (bs ++ u (((1 + P2.length + 1) + F.length + 1 : Nat) : Int))) w) from fun A n c bs w hr hn => sPutU A n c bs (((1 + P2.length + 1) + F.length + 1 : Nat) : Int) w hr hn)
        have hz3 := u_le (((1 + P2.length + 1) + F.length + 1 : Nat) : Int)
        have hLI : (((([1] ++ P2) ++ [127]) ++ F) ++ [11]).length = (1 + P2.length + 1) + F.length + 1 := by simp; omega
        have HF : Hid (fnV ⟨sg, lo, (B, m, q), bd⟩ = u (((1 + P2.length + 1) + F.length + 1 : Nat) : Int) ++ (((([1] ++ P2) ++ [127]) ++ F) ++ [11])) := hide (by rw [← hLI]; exact HFN.out)
        obtain ⟨P3, hP3⟩ : ∃ P3, u (((1 + P2.length + 1) + F.length + 1 : Nat) : Int) = P3 := ⟨_, rfl⟩
        rw [hP3] at C3 hz3 HF
        clear hP3 hLI
        refine (C3.out As2 N2 ds2 L2 w7 HD7.out.rd (by omega)).mono ?_
        rintro e w8 ⟨A8, d8, rfl, ho8, hb8⟩
        have HO8 := hide (ho8.base_le HB7.out.size)
        have HI8 := hide (HI7.out.below hb8 (Nat.le_refl _))
        have HG8 := hide (HG7.out.below hb8 (Nat.le_refl _))
        have HB8 := hide (bel_step HB7.out hb8 HB7.out.size)
        have HN8 := hide (show blk GA = none ∨ blk GA ≠ blk A8 from blk_ne HG7.out.lt ho8.ge)
        clear ho8 hb8
        go_wp2_with (at_builtin; refine app rfl _ _ rfl rfl rfl E8 HO8.out HI8.out.rd (one8all _) (by omega) HB8.out.size ?_; intro A9 d9 w9 ho9 hg9 hl9)
        have HG9 := hide (HG8.out.kept hg9 HN8.out)
        have HB9 := hide (bel_grown HB8.out hg9 HB8.out.size (fun g hg => (HO8.out.blk_lt g hg).1))
        have HO9 := hide ho9
        clear ho9 hg9 hl9
        go_roundw
        case rel =>
          refine ⟨k + 1, _, _, _, _, _, _, by omega, by go_num, rfl, rfl, hide ⟨?_, ?_, HB9.out⟩, hide ⟨?_, ?_, HB9.out⟩⟩
          · rw [fm_step HX.out, HNL.out.2.1, HFS.out, List.length_append, ← HNL.out.1]
          · rw [fm_step HX.out, HNL.out.2.1, HFS.out]
            exact HG9.out
          · rw [fm_step HX.out, HNL.out.2.2.2, HF.out, List.length_append, ← HNL.out.2.2.1]
            simp
            omega
          · rw [fm_step HX.out, HNL.out.2.2.2, HF.out]
            have h := HO9.out
            simpa [by8] using h
        case measure => simp [intOf]; omega
      · have HFN : Hid (fnV ⟨sg, lo, (B, m, q), bd⟩ = u (((([0] : List Int) ++ F) ++ [11]).length : Int) ++ (([0] ++ F) ++ [11])) := hide (by
          have e : (([0] : List Int) ++ F) ++ [11] = [0] ++ (F ++ [11]) := by simp
          rw [e, HFN0.out, if_neg hlo])
        clear HFN0
        have HIx := hide (show Ow (w2.alloc (.cells #[.int .u8 0] 5)) w.heap.size 5 1 (some ⟨w2.heap.size, 0, none⟩) 1 1 (by8 [0]) from (lit1 w2 0).base_le HB2a.out.size)
        have HGx := HG2a
        have HDx := HD2a
        have HBx := HB2b
        have HKx := HK2a
        have hNG : blk GA = none ∨ blk GA ≠ blk (some ⟨w2.heap.size, 0, none⟩) := blk_ne (B := w2.heap.size) hg0 (fun g hg => by injection hg with hg; subst hg; exact Nat.le_refl _)
        have hND : blk As2 = none ∨ blk As2 ≠ blk (some ⟨w2.heap.size, 0, none⟩) := blk_ne (B := w2.heap.size) hd0 (fun g hg => by injection hg with hg; subst hg; exact Nat.le_refl _)
        clear HK2 HK2a HG2 HD2 HB2a HG2a HD2a HB2b
        go_upto_region 10 with fail
        clear k1 hg0 hd0
        have kb : (w2.alloc (.cells #[.int .u8 0] 5)).cell? ⟨r, 2, none⟩ = some (.slice B m q) := HKx.out.cell 2
        go_wp2_with fail
        refine (C4.out (w2.alloc (.cells #[.int .u8 0] 5)) (HRD.out.bel HBx.out)).mono ?_
        rintro e w5 ⟨AF, dF, rfl, hof, hbf⟩
        have HI5 := hide (HIx.out.below hbf (Nat.le_refl _))
        have HG5 := hide (HGx.out.below hbf (Nat.le_refl _))
        have HD5 := hide (HDx.out.below hbf (Nat.le_refl _))
        have HB5 := hide (bel_step HBx.out hbf HBx.out.size)
        have HF5 := hide hof
        have HN5 := hide (show ∀ g, blk (some ⟨w2.heap.size, 0, none⟩) = some g → blk AF ≠ some g from fun g hg he => by have h1 := (HIx.out.blk_lt g hg).2; have h2 := (hof.blk_lt g he).1; omega)
        have HNG := hide (show blk GA = none ∨ blk GA ≠ blk (some ⟨w2.heap.size, 0, none⟩) from hNG)
        have HND := hide (show blk As2 = none ∨ blk As2 ≠ blk (some ⟨w2.heap.size, 0, none⟩) from hND)
        clear hof hbf kb HIx HGx HDx HKx HBx hNG hND
        go_wp2_with (first
          | (have h0 := HI6
             at_builtin; refine app1 rfl _ _ rfl rfl rfl E8 HI6.out rfl (one8 _) (by omega) HB6.out.size ?_; intro A7 d7 w7 ho7 hg7 hl7
             have HI7 := hide (show Ow w7 w.heap.size 5 1 A7 (1 + F.length + 1) d7 (by8 ((([0] : List Int) ++ F) ++ [11])) by simpa [by8] using ho7)
             have HG7 := hide (HG6.out.kept hg7 HNG6.out)
             have HD7 := hide (HD6.out.kept hg7 HND6.out)
             have HB7 := hide (bel_grown HB6.out hg7 HB6.out.size (fun g hg => (HI6.out.blk_lt g hg).1))
             clear ho7 hg7 hl7)
          | (at_builtin; refine app rfl _ _ rfl rfl rfl E8 HI5.out HF5.out.rd (one8all _) (by omega) HB5.out.size ?_; intro A6 d6 w6 ho6 hg6 hl6
             have HI6 := hide (show Ow w6 w.heap.size 5 1 A6 (1 + F.length) d6 (by8 (([0] : List Int) ++ F)) by simpa [by8] using ho6)
             have HG6 := hide (HG5.out.kept hg6 HNG.out)
             have HD6 := hide (HD5.out.kept hg6 HND.out)
             have HB6 := hide (bel_grown HB5.out hg6 HB5.out.size (fun g hg => (HI5.out.blk_lt g hg).1))
             have HNG6 := hide (ne_more (A := GA) HG5.out.lt HNG.out hl6)
             have HND6 := hide (ne_more (A := As2) HD5.out.lt HND.out hl6)
             clear ho6 hg6 hl6))
        have C3 := hide (show ∀ A n c bs w, Rd w w.heap.size 1 A n (by8 bs) → n ≤ 70368744177664 → Calls Tryz.prog 77 #[.slice A n c, .int .i64 ((1 + F.length + 1 : Nat) : Int)] w (Fresh 5 1 (n + (u ((1 + F.length + 1 : Nat) : Int)).length) (by8 (bs ++ u ((1 + F.length + 1 : Nat) : Int))) w) from fun A n c bs w hr hn => sPutU A n c bs ((1 + F.length + 1 : Nat) : Int) w hr hn)
        have hz3 := u_le ((1 + F.length + 1 : Nat) : Int)
        have hLI : ((([0] : List Int) ++ F) ++ [11]).length = 1 + F.length + 1 := by simp; omega
        have HF : Hid (fnV ⟨sg, lo, (B, m, q), bd⟩ = u ((1 + F.length + 1 : Nat) : Int) ++ ((([0] : List Int) ++ F) ++ [11])) := hide (by rw [← hLI]; exact HFN.out)
        obtain ⟨P3, hP3⟩ : ∃ P3, u ((1 + F.length + 1 : Nat) : Int) = P3 := ⟨_, rfl⟩
        rw [hP3] at C3 hz3 HF
        clear hP3 hLI
        refine (C3.out As2 N2 ds2 L2 w7 HD7.out.rd (by omega)).mono ?_
        rintro e w8 ⟨A8, d8, rfl, ho8, hb8⟩
        have HO8 := hide (ho8.base_le HB7.out.size)
        have HI8 := hide (HI7.out.below hb8 (Nat.le_refl _))
        have HG8 := hide (HG7.out.below hb8 (Nat.le_refl _))
        have HB8 := hide (bel_step HB7.out hb8 HB7.out.size)
        have HN8 := hide (show blk GA = none ∨ blk GA ≠ blk A8 from blk_ne HG7.out.lt ho8.ge)
        clear ho8 hb8
        go_wp2_with (at_builtin; refine app rfl _ _ rfl rfl rfl E8 HO8.out HI8.out.rd (one8all _) (by omega) HB8.out.size ?_; intro A9 d9 w9 ho9 hg9 hl9)
        have HG9 := hide (HG8.out.kept hg9 HN8.out)
        have HB9 := hide (bel_grown HB8.out hg9 HB8.out.size (fun g hg => (HO8.out.blk_lt g hg).1))
        have HO9 := hide ho9
        clear ho9 hg9 hl9
        go_roundw
        case rel =>
          refine ⟨k + 1, _, _, _, _, _, _, by omega, by go_num, rfl, rfl, hide ⟨?_, ?_, HB9.out⟩, hide ⟨?_, ?_, HB9.out⟩⟩
          · rw [fm_step HX.out, HNL.out.2.1, HFS.out, List.length_append, ← HNL.out.1]
          · rw [fm_step HX.out, HNL.out.2.1, HFS.out]
            exact HG9.out
          · rw [fm_step HX.out, HNL.out.2.2.2, HF.out, List.length_append, ← HNL.out.2.2.1]
            simp
            omega
          · rw [fm_step HX.out, HNL.out.2.2.2, HF.out]
            have h := HO9.out
            simpa [by8] using h
        case measure => simp [intOf]; omega
    · obtain rfl : k = n := by omega
      go_wp2_with fail
      go_ret2
      have h1 := HNL.out.2.1
      have h2 := HNL.out.2.2.2
      rw [fm_full HL.out] at h1 h2
      have n1 := HNL.out.1
      have n2 := HNL.out.2.2.1
      subst h1
      subst h2
      subst n1
      subst n2
      exact ⟨As1, As2, ds1, ds2, rfl, HO1.out, HO2.out, HB.out⟩
end Go.Proofs.YtiinkfejdnfonaaGreatDoor.Mb
