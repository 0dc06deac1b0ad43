/- The program's writer of a function's code, and of parts: a contract each. -/
import Derived.Test.YtiinkfejdnfonaaGreatDoorMbY
namespace Go.Proofs.YtiinkfejdnfonaaGreatDoor.Mb
open Go.RowKit Go.Proofs.YtiinkfejdnfonaaGreatDoor.Num Go.Proofs.YtiinkfejdnfonaaGreatDoor.NumC Go.Proofs.YtiinkfejdnfonaaGreatDoor.Mem Go.Proofs.YtiinkfejdnfonaaGreatDoor.Shape Go.Proofs.YtiinkfejdnfonaaGreatDoor.Utf Go.Proofs.YtiinkfejdnfonaaGreatDoor.Ops Go.Proofs.YtiinkfejdnfonaaGreatDoor.Leb Go.Proofs.YtiinkfejdnfonaaGreatDoor.Mo Go.Proofs.YtiinkfejdnfonaaGreatDoor.Bb Go.Proofs.YtiinkfejdnfonaaGreatDoor.NameC Go.Proofs.YtiinkfejdnfonaaGreatDoor.PutC
set_option linter.unusedVariables false
set_option maxRecDepth 100000 in
set_option maxHeartbeats 4000000 in
theorem iFunc (sg lo : Int) (B : Option Addr) (m q : Nat) (bd : List Ins3) (w : World) (hrd : Rd w w.heap.size 3 B m (insC bd)) (hm : (m : Int) ≤ 1500) :
    Calls Tryz.prog 54 #[.agg #[.int .i64 sg, .int .i64 lo, .slice B m q]] w (Fresh 5 1 (fnV ⟨sg, lo, (B, m, q), bd⟩).length (by8 (fnV ⟨sg, lo, (B, m, q), bd⟩)) w) := by
  have hbl : bd.length = m := rd_ins hrd
  have hFl := full_le bd
  have C4 := hide (show ∀ W, Rd W W.heap.size 3 B m (insC bd) → Calls Tryz.prog 93 #[.slice B m q] W (Fresh 5 1 (full bd).length (by8 (full bd)) W) from fun W h => iBodyBytes B m q bd W h (by omega))
  have C2 := hide (show ∀ A n c bs w, Rd w w.heap.size 1 A n (by8 bs) → n ≤ 70368744177664 → Calls Tryz.prog 46 #[.slice A n c, .int .i64 lo] w (Fresh 5 1 (n + (u lo).length) (by8 (bs ++ u lo)) w) from fun A n c bs w hr hn => iPutU A n c bs lo w hr hn)
  have hz2 := u_le lo
  obtain ⟨R, hR⟩ : ∃ R, fnV ⟨sg, lo, (B, m, q), bd⟩ = R := ⟨_, rfl⟩
  rw [hR]
  have HFN0 : Hid (R = u (((if 0 < lo then 1 :: (u lo ++ [127]) else [0]) ++ (full bd ++ [11])).length : Int) ++ ((if 0 < lo then 1 :: (u lo ++ [127]) else [0]) ++ (full bd ++ [11]))) := hide (by rw [← hR]; rfl)
  obtain ⟨F, hF⟩ : ∃ F, full bd = F := ⟨_, rfl⟩
  obtain ⟨P2, hP2⟩ : ∃ P2, u lo = P2 := ⟨_, rfl⟩
  rw [hF] at C4 HFN0 hFl
  rw [hP2] at C2 HFN0 hz2
  have hFb : (F.length : Int) ≤ 16500 := by omega
  have HRD := hide hrd
  clear hF hP2 hR hbl hFl hrd
  have HK0 := hide (show Blk ((w.alloc (.cells #[.int .i64 sg, .int .i64 lo, .slice B m q] 84)).alloc (.cells #[.int .u8 0] 5)) w.heap.size #[.int .i64 sg, .int .i64 lo, .slice B m q] 84 from (Blk.new w _ _).alloc _)
  have HB0 := hide (show Below w.heap.size w ((w.alloc (.cells #[.int .i64 sg, .int .i64 lo, .slice B m q] 84)).alloc (.cells #[.int .u8 0] 5)) from ((Below.refl w.heap.size w).alloc (Nat.le_refl _) _).alloc (by simp) _)
  have k1 : ((w.alloc (.cells #[.int .i64 sg, .int .i64 lo, .slice B m q] 84)).alloc (.cells #[.int .u8 0] 5)).cell? ⟨w.heap.size, 1, none⟩ = some (.int .i64 lo) := HK0.out.cell 1
  by_cases hlo : 0 < lo
  · have HFN : Hid (R = u ((((([1] ++ P2) ++ [127]) ++ F) ++ [11]).length : Int) ++ (((([1] ++ P2) ++ [127]) ++ F) ++ [11])) := hide (by
      have e : ((([1] ++ P2) ++ [127]) ++ F) ++ [11] = (1 :: (P2 ++ [127])) ++ (F ++ [11]) := by simp
      rw [e, HFN0.out, if_pos hlo])
    clear HFN0
    have HK2c := hide (HK0.out.alloc (.cells #[.int .u8 1] 5))
    have k1b : (((w.alloc (.cells #[.int .i64 sg, .int .i64 lo, .slice B m q] 84)).alloc (.cells #[.int .u8 0] 5)).alloc (.cells #[.int .u8 1] 5)).cell? ⟨w.heap.size, 1, none⟩ = some (.int .i64 lo) := HK2c.out.cell 1
    have HB2c := hide (HB0.out.alloc HB0.out.size (.cells #[.int .u8 1] 5))
    have HRL := hide (show Rd (((w.alloc (.cells #[.int .i64 sg, .int .i64 lo, .slice B m q] 84)).alloc (.cells #[.int .u8 0] 5)).alloc (.cells #[.int .u8 1] 5)) (((w.alloc (.cells #[.int .i64 sg, .int .i64 lo, .slice B m q] 84)).alloc (.cells #[.int .u8 0] 5)).alloc (.cells #[.int .u8 1] 5)).heap.size 1 (some ⟨w.heap.size + 1 + 1, 0, none⟩) 1 (by8 [1]) by
      have h := rdlit ((w.alloc (.cells #[.int .i64 sg, .int .i64 lo, .slice B m q] 84)).alloc (.cells #[.int .u8 0] 5)) (c := #[.int .u8 1]) (M := [1]) (m := 1) ⟨rfl, rfl⟩
      simpa using h)
    clear HK0 HB0
    go_enter Tryz.func54, Tryz.ntmps54
    go_wp2_with fail
    refine (C2.out _ 1 1 [1] _ HRL.out (by omega)).mono ?_
    rintro e w3 ⟨A3, d3, rfl, ho3, hb3⟩
    have HO3 := hide (ho3.base_le HB2c.out.size)
    have HB3 := hide (bel_step HB2c.out hb3 HB2c.out.size)
    have HK3 := hide (HK2c.out.bel hb3)
    clear ho3 hb3 HRL HB2c HK2c k1 k1b
    go_upto_region 4 with (at_builtin; refine app1 rfl _ _ rfl rfl rfl E8 HO3.out rfl (one8 _) (by omega) HB3.out.size ?_; intro A4 d4 w4 ho4 hg4 hl4)
    have HIx := hide (show Ow w4 w.heap.size 5 1 A4 (1 + P2.length + 1) d4 (by8 (([1] ++ P2) ++ [127])) by simpa [by8] using ho4)
    have HBx := hide (bel_grown HB3.out hg4 HB3.out.size (fun g hg => (HO3.out.blk_lt g hg).1))
    have HKx := hide (bgrown HK3.out hg4 (ne_ty HO3.out HK3.out (by decide)))
    clear ho4 hg4 hl4 HO3 HB3 HK3
    have kb : w4.cell? ⟨w.heap.size, 2, none⟩ = some (.slice B m q) := HKx.out.cell 2
    go_wp2_with fail
    refine (C4.out w4 (HRD.out.bel HBx.out)).mono ?_
    rintro e w5 ⟨AF, dF, rfl, hof, hbf⟩
    have HI5 := hide (HIx.out.below hbf (Nat.le_refl _))
    have HB5 := hide (bel_step HBx.out hbf HBx.out.size)
    have HF5 := hide hof
    clear hof hbf kb HIx HKx HBx
    go_wp2_with (first
      | (have h0 := HI6
         at_builtin; refine app1 rfl _ _ rfl rfl rfl E8 HI6.out rfl (one8 _) (by omega) HB6.out.size ?_; intro A7 d7 w7 ho7 hg7 hl7
         have HI7 := hide (show Ow w7 w.heap.size 5 1 A7 ((1 + P2.length + 1) + F.length + 1) d7 (by8 (((([1] ++ P2) ++ [127]) ++ F) ++ [11])) by simpa [by8] using ho7)
         have HB7 := hide (bel_grown HB6.out hg7 HB6.out.size (fun g hg => (HI6.out.blk_lt g hg).1))
         clear ho7 hg7 hl7)
      | (at_builtin; refine app rfl _ _ rfl rfl rfl E8 HI5.out HF5.out.rd (one8all _) (by omega) HB5.out.size ?_; intro A6 d6 w6 ho6 hg6 hl6
         have HI6 := hide (show Ow w6 w.heap.size 5 1 A6 ((1 + P2.length + 1) + F.length) d6 (by8 ((([1] ++ P2) ++ [127]) ++ F)) by simpa [by8] using ho6)
         have HB6 := hide (bel_grown HB5.out hg6 HB5.out.size (fun g hg => (HI5.out.blk_lt g hg).1))
         clear ho6 hg6 hl6))
    have C3 := hide (nil_put (fun A n c bs w hr hn => iPutU A n c bs (((1 + P2.length + 1) + F.length + 1 : Nat) : Int) w hr hn))
    have hz3 := u_le (((1 + P2.length + 1) + F.length + 1 : Nat) : Int)
    have hLI : (((([1] ++ P2) ++ [127]) ++ F) ++ [11]).length = (1 + P2.length + 1) + F.length + 1 := by simp; omega
    have HF : Hid (R = u (((1 + P2.length + 1) + F.length + 1 : Nat) : Int) ++ (((([1] ++ P2) ++ [127]) ++ F) ++ [11])) := hide (by rw [← hLI]; exact HFN.out)
    obtain ⟨P3, hP3⟩ : ∃ P3, u (((1 + P2.length + 1) + F.length + 1 : Nat) : Int) = P3 := ⟨_, rfl⟩
    rw [hP3] at C3 hz3 HF
    clear hP3
    have HLI := hide hLI
    clear hLI
    refine (C3.out w7).mono ?_
    rintro e w8 ⟨A8, d8, rfl, ho8, hb8⟩
    have HO8 := hide (ho8.base_le HB7.out.size)
    have HI8 := hide (HI7.out.below hb8 (Nat.le_refl _))
    have HB8 := hide (bel_step HB7.out hb8 HB7.out.size)
    clear ho8 hb8
    go_wp2_with (at_builtin; refine app rfl _ _ rfl rfl rfl E8 HO8.out HI8.out.rd (one8all _) (by omega) HB8.out.size ?_; intro A9 d9 w9 ho9 hg9 hl9)
    go_ret
    have e1 : P3.length + ((1 + P2.length + 1) + F.length + 1) = (P3 ++ (((([1] ++ P2) ++ [127]) ++ F) ++ [11])).length := by rw [List.length_append, HLI.out]
    rw [HF.out, ← e1]
    exact ⟨A9, d9, rfl, by simpa [by8] using ho9, HB8.out.grown hg9 HB8.out.size (fun g hg => (HO8.out.blk_lt g hg).1)⟩
  · have HFN : Hid (R = u (((([0] : List Int) ++ F) ++ [11]).length : Int) ++ (([0] ++ F) ++ [11])) := hide (by
      have e : (([0] : List Int) ++ F) ++ [11] = [0] ++ (F ++ [11]) := by simp
      rw [e, HFN0.out, if_neg hlo])
    clear HFN0
    have HIx := hide (show Ow ((w.alloc (.cells #[.int .i64 sg, .int .i64 lo, .slice B m q] 84)).alloc (.cells #[.int .u8 0] 5)) w.heap.size 5 1 (some ⟨w.heap.size + 1, 0, none⟩) 1 1 (by8 [0]) by
      have h := (lit1 (w.alloc (.cells #[.int .i64 sg, .int .i64 lo, .slice B m q] 84)) 0).base_le (show w.heap.size ≤ (w.alloc (.cells #[.int .i64 sg, .int .i64 lo, .slice B m q] 84)).heap.size by simp)
      simpa using h)
    have HBx := HB0
    have HKx := HK0
    clear HB0 HK0
    go_enter Tryz.func54, Tryz.ntmps54
    go_upto_region 4 with fail
    clear k1
    have kb : ((w.alloc (.cells #[.int .i64 sg, .int .i64 lo, .slice B m q] 84)).alloc (.cells #[.int .u8 0] 5)).cell? ⟨w.heap.size, 2, none⟩ = some (.slice B m q) := HKx.out.cell 2
    go_wp2_with fail
    refine (C4.out ((w.alloc (.cells #[.int .i64 sg, .int .i64 lo, .slice B m q] 84)).alloc (.cells #[.int .u8 0] 5)) (HRD.out.bel HBx.out)).mono ?_
    rintro e w5 ⟨AF, dF, rfl, hof, hbf⟩
    have HI5 := hide (HIx.out.below hbf (Nat.le_refl _))
    have HB5 := hide (bel_step HBx.out hbf HBx.out.size)
    have HF5 := hide hof
    clear hof hbf kb HIx HKx HBx
    go_wp2_with (first
      | (have h0 := HI6
         at_builtin; refine app1 rfl _ _ rfl rfl rfl E8 HI6.out rfl (one8 _) (by omega) HB6.out.size ?_; intro A7 d7 w7 ho7 hg7 hl7
         have HI7 := hide (show Ow w7 w.heap.size 5 1 A7 (1 + F.length + 1) d7 (by8 ((([0] : List Int) ++ F) ++ [11])) by simpa [by8] using ho7)
         have HB7 := hide (bel_grown HB6.out hg7 HB6.out.size (fun g hg => (HI6.out.blk_lt g hg).1))
         clear ho7 hg7 hl7)
      | (at_builtin; refine app rfl _ _ rfl rfl rfl E8 HI5.out HF5.out.rd (one8all _) (by omega) HB5.out.size ?_; intro A6 d6 w6 ho6 hg6 hl6
         have HI6 := hide (show Ow w6 w.heap.size 5 1 A6 (1 + F.length) d6 (by8 (([0] : List Int) ++ F)) by simpa [by8] using ho6)
         have HB6 := hide (bel_grown HB5.out hg6 HB5.out.size (fun g hg => (HI5.out.blk_lt g hg).1))
         clear ho6 hg6 hl6))
    have C3 := hide (nil_put (fun A n c bs w hr hn => iPutU A n c bs ((1 + F.length + 1 : Nat) : Int) w hr hn))
    have hz3 := u_le ((1 + F.length + 1 : Nat) : Int)
    have hLI : ((([0] : List Int) ++ F) ++ [11]).length = 1 + F.length + 1 := by simp; omega
    have HF : Hid (R = u ((1 + F.length + 1 : Nat) : Int) ++ ((([0] : List Int) ++ F) ++ [11])) := hide (by rw [← hLI]; exact HFN.out)
    obtain ⟨P3, hP3⟩ : ∃ P3, u ((1 + F.length + 1 : Nat) : Int) = P3 := ⟨_, rfl⟩
    rw [hP3] at C3 hz3 HF
    clear hP3
    have HLI := hide hLI
    clear hLI
    refine (C3.out w7).mono ?_
    rintro e w8 ⟨A8, d8, rfl, ho8, hb8⟩
    have HO8 := hide (ho8.base_le HB7.out.size)
    have HI8 := hide (HI7.out.below hb8 (Nat.le_refl _))
    have HB8 := hide (bel_step HB7.out hb8 HB7.out.size)
    clear ho8 hb8
    go_wp2_with (at_builtin; refine app rfl _ _ rfl rfl rfl E8 HO8.out HI8.out.rd (one8all _) (by omega) HB8.out.size ?_; intro A9 d9 w9 ho9 hg9 hl9)
    go_ret
    have e1 : P3.length + (1 + F.length + 1) = (P3 ++ ((([0] : List Int) ++ F) ++ [11])).length := by rw [List.length_append, HLI.out]
    rw [HF.out, ← e1]
    exact ⟨A9, d9, rfl, by simpa [by8] using ho9, HB8.out.grown hg9 HB8.out.size (fun g hg => (HO8.out.blk_lt g hg).1)⟩
set_option maxRecDepth 100000 in
set_option maxHeartbeats 4000000 in
theorem iParts2 (cap : Addr) (Xs : List (List Int)) (count : Nat) (w : World) (hl : Xs.length = count) (hc : (count : Int) ≤ 60) (hX : ∀ x ∈ Xs, x.length ≤ 17000)
    (hcall : ∀ (k : Nat) (x : List Int), Xs[k]? = some x → ∀ W, Below w.heap.size w W → Calls Tryz.prog 43 #[.int .i64 k, .pointer (some cap)] W (Fresh 5 1 x.length (by8 x) W)) :
    Calls Tryz.prog 42 #[.int .i64 count, .func (.func 43) #[] #[.pointer (some cap)]] w (Fresh 5 1 (u count ++ Xs.flatMap id).length (by8 (u count ++ Xs.flatMap id)) w) := by
  have hz := u_le (count : Int)
  have C1 := hide (nil_put (fun A n' c bs w hr hn => iPutU A n' c bs (count : Int) w hr hn))
  obtain ⟨P, hP⟩ : ∃ P, u (count : Int) = P := ⟨_, rfl⟩
  rw [hP] at C1 hz ⊢
  obtain ⟨R, hR⟩ : ∃ R, P ++ Xs.flatMap id = R := ⟨_, rfl⟩
  rw [hR]
  have HRR := hide hR
  have HC := hide hcall
  have HXX := hide hX
  have HL := hide hl
  have HT := hide (show ∀ k, ((Xs.take k).flatMap id).length ≤ 1020000 from fun k => fm_take (K := 17000) (f := id) hX (by omega) (Nat.le_refl _))
  clear hP hR hcall hX hl
  go_enter Tryz.func42, Tryz.ntmps42
  go_wp2_with fail
  refine (C1.out w).mono ?_
  rintro e w1 ⟨A1, d1, rfl, ho, hb⟩
  have HO := hide ho
  have HB := hide hb
  clear ho hb
  go_wp2_with fail
  go_loopw [5, 6] (fun s i wr => ∃ (k N : Nat) (As : Option Addr) (d : Nat), k ≤ count ∧ i = .int .i64 k ∧ s = .slice As N d ∧ Hid (N = (P ++ (Xs.take k).flatMap id).length) ∧ Hid (Ow wr w.heap.size 5 1 As N d (by8 (P ++ (Xs.take k).flatMap id))) ∧ Hid (Below w.heap.size w wr)) (fun _ i _ => count - (intOf i).toNat)
  case atStart => exact ⟨0, _, A1, d1, Nat.zero_le _, rfl, rfl, hide (by simp), hide (by simpa using HO.out), HB⟩
  case round =>
    obtain ⟨k, N, As, d, hk, rfl, rfl, HN, HO2, HB2⟩ := hrel
    have hN : (N : Int) ≤ 1020005 := by have := HT.out k; have := HN.out; rw [List.length_append] at this; omega
    by_cases hlt : k < count
    · have hi : (k : Int) < count := by omega
      obtain ⟨x, hx⟩ : ∃ x, Xs[k]? = some x := ⟨_, List.getElem?_eq_getElem (by have := HL.out; omega)⟩
      have hxl := HXX.out x (List.mem_of_getElem? hx)
      have HX := hide hx
      have C2 := hide (HC.out k x hx)
      clear hx
      go_wp2_with fail
      refine (C2.out wr HB2.out).mono ?_
      rintro e w2 ⟨A2, d2, rfl, ho2, hb2⟩
      have HO3 := hide (HO2.out.below hb2 (Nat.le_refl _))
      have HB3 := hide (bel_step HB2.out hb2 HB2.out.size)
      have HR2 := hide ho2.rd
      clear ho2 hb2
      go_wp2_with (at_builtin; refine app rfl _ _ rfl rfl rfl E8 HO3.out HR2.out (one8all _) (by omega) HB3.out.size ?_; intro B3 d3 w3 ho3 hg3 hl3)
      go_roundw
      case rel =>
        refine ⟨k + 1, N + x.length, B3, d3, by omega, by go_num, rfl, hide ?_, hide ?_, hide (bel_grown HB3.out hg3 HB3.out.size (fun g hg => (HO3.out.blk_lt g hg).1))⟩
        · rw [fm_step HX.out, ← List.append_assoc, List.length_append, ← HN.out]
          rfl
        · rw [fm_step HX.out, ← List.append_assoc]
          simpa [by8] using ho3
      case measure => simp [intOf]; omega
    · obtain rfl : k = count := by omega
      go_wp2_with fail
      go_ret
      have h1 := HN.out
      have h2 := HO2.out
      rw [fm_full HL.out, HRR.out] at h1 h2
      rw [← h1]
      exact ⟨As, d, rfl, h2, HB2.out⟩
set_option maxRecDepth 100000 in
set_option maxHeartbeats 4000000 in
theorem iParts3 (cap : Addr) (Xs : List (List Int)) (count : Nat) (w : World) (hl : Xs.length = count) (hc : (count : Int) ≤ 60) (hX : ∀ x ∈ Xs, x.length ≤ 17000)
    (hcall : ∀ (k : Nat) (x : List Int), Xs[k]? = some x → ∀ W, Below w.heap.size w W → Calls Tryz.prog 45 #[.int .i64 k, .pointer (some cap)] W (Fresh 5 1 x.length (by8 x) W)) :
    Calls Tryz.prog 42 #[.int .i64 count, .func (.func 45) #[] #[.pointer (some cap)]] w (Fresh 5 1 (u count ++ Xs.flatMap id).length (by8 (u count ++ Xs.flatMap id)) w) := by
  have hz := u_le (count : Int)
  have C1 := hide (nil_put (fun A n' c bs w hr hn => iPutU A n' c bs (count : Int) w hr hn))
  obtain ⟨P, hP⟩ : ∃ P, u (count : Int) = P := ⟨_, rfl⟩
  rw [hP] at C1 hz ⊢
  obtain ⟨R, hR⟩ : ∃ R, P ++ Xs.flatMap id = R := ⟨_, rfl⟩
  rw [hR]
  have HRR := hide hR
  have HC := hide hcall
  have HXX := hide hX
  have HL := hide hl
  have HT := hide (show ∀ k, ((Xs.take k).flatMap id).length ≤ 1020000 from fun k => fm_take (K := 17000) (f := id) hX (by omega) (Nat.le_refl _))
  clear hP hR hcall hX hl
  go_enter Tryz.func42, Tryz.ntmps42
  go_wp2_with fail
  refine (C1.out w).mono ?_
  rintro e w1 ⟨A1, d1, rfl, ho, hb⟩
  have HO := hide ho
  have HB := hide hb
  clear ho hb
  go_wp2_with fail
  go_loopw [5, 6] (fun s i wr => ∃ (k N : Nat) (As : Option Addr) (d : Nat), k ≤ count ∧ i = .int .i64 k ∧ s = .slice As N d ∧ Hid (N = (P ++ (Xs.take k).flatMap id).length) ∧ Hid (Ow wr w.heap.size 5 1 As N d (by8 (P ++ (Xs.take k).flatMap id))) ∧ Hid (Below w.heap.size w wr)) (fun _ i _ => count - (intOf i).toNat)
  case atStart => exact ⟨0, _, A1, d1, Nat.zero_le _, rfl, rfl, hide (by simp), hide (by simpa using HO.out), HB⟩
  case round =>
    obtain ⟨k, N, As, d, hk, rfl, rfl, HN, HO2, HB2⟩ := hrel
    have hN : (N : Int) ≤ 1020005 := by have := HT.out k; have := HN.out; rw [List.length_append] at this; omega
    by_cases hlt : k < count
    · have hi : (k : Int) < count := by omega
      obtain ⟨x, hx⟩ : ∃ x, Xs[k]? = some x := ⟨_, List.getElem?_eq_getElem (by have := HL.out; omega)⟩
      have hxl := HXX.out x (List.mem_of_getElem? hx)
      have HX := hide hx
      have C2 := hide (HC.out k x hx)
      clear hx
      go_wp2_with fail
      refine (C2.out wr HB2.out).mono ?_
      rintro e w2 ⟨A2, d2, rfl, ho2, hb2⟩
      have HO3 := hide (HO2.out.below hb2 (Nat.le_refl _))
      have HB3 := hide (bel_step HB2.out hb2 HB2.out.size)
      have HR2 := hide ho2.rd
      clear ho2 hb2
      go_wp2_with (at_builtin; refine app rfl _ _ rfl rfl rfl E8 HO3.out HR2.out (one8all _) (by omega) HB3.out.size ?_; intro B3 d3 w3 ho3 hg3 hl3)
      go_roundw
      case rel =>
        refine ⟨k + 1, N + x.length, B3, d3, by omega, by go_num, rfl, hide ?_, hide ?_, hide (bel_grown HB3.out hg3 HB3.out.size (fun g hg => (HO3.out.blk_lt g hg).1))⟩
        · rw [fm_step HX.out, ← List.append_assoc, List.length_append, ← HN.out]
          rfl
        · rw [fm_step HX.out, ← List.append_assoc]
          simpa [by8] using ho3
      case measure => simp [intOf]; omega
    · obtain rfl : k = count := by omega
      go_wp2_with fail
      go_ret
      have h1 := HN.out
      have h2 := HO2.out
      rw [fm_full HL.out, HRR.out] at h1 h2
      rw [← h1]
      exact ⟨As, d, rfl, h2, HB2.out⟩
set_option maxRecDepth 100000 in
set_option maxHeartbeats 4000000 in
theorem iParts4 (cap : Addr) (Xs : List (List Int)) (count : Nat) (w : World) (hl : Xs.length = count) (hc : (count : Int) ≤ 60) (hX : ∀ x ∈ Xs, x.length ≤ 17000)
    (hcall : ∀ (k : Nat) (x : List Int), Xs[k]? = some x → ∀ W, Below w.heap.size w W → Calls Tryz.prog 48 #[.int .i64 k, .pointer (some cap)] W (Fresh 5 1 x.length (by8 x) W)) :
    Calls Tryz.prog 42 #[.int .i64 count, .func (.func 48) #[] #[.pointer (some cap)]] w (Fresh 5 1 (u count ++ Xs.flatMap id).length (by8 (u count ++ Xs.flatMap id)) w) := by
  have hz := u_le (count : Int)
  have C1 := hide (nil_put (fun A n' c bs w hr hn => iPutU A n' c bs (count : Int) w hr hn))
  obtain ⟨P, hP⟩ : ∃ P, u (count : Int) = P := ⟨_, rfl⟩
  rw [hP] at C1 hz ⊢
  obtain ⟨R, hR⟩ : ∃ R, P ++ Xs.flatMap id = R := ⟨_, rfl⟩
  rw [hR]
  have HRR := hide hR
  have HC := hide hcall
  have HXX := hide hX
  have HL := hide hl
  have HT := hide (show ∀ k, ((Xs.take k).flatMap id).length ≤ 1020000 from fun k => fm_take (K := 17000) (f := id) hX (by omega) (Nat.le_refl _))
  clear hP hR hcall hX hl
  go_enter Tryz.func42, Tryz.ntmps42
  go_wp2_with fail
  refine (C1.out w).mono ?_
  rintro e w1 ⟨A1, d1, rfl, ho, hb⟩
  have HO := hide ho
  have HB := hide hb
  clear ho hb
  go_wp2_with fail
  go_loopw [5, 6] (fun s i wr => ∃ (k N : Nat) (As : Option Addr) (d : Nat), k ≤ count ∧ i = .int .i64 k ∧ s = .slice As N d ∧ Hid (N = (P ++ (Xs.take k).flatMap id).length) ∧ Hid (Ow wr w.heap.size 5 1 As N d (by8 (P ++ (Xs.take k).flatMap id))) ∧ Hid (Below w.heap.size w wr)) (fun _ i _ => count - (intOf i).toNat)
  case atStart => exact ⟨0, _, A1, d1, Nat.zero_le _, rfl, rfl, hide (by simp), hide (by simpa using HO.out), HB⟩
  case round =>
    obtain ⟨k, N, As, d, hk, rfl, rfl, HN, HO2, HB2⟩ := hrel
    have hN : (N : Int) ≤ 1020005 := by have := HT.out k; have := HN.out; rw [List.length_append] at this; omega
    by_cases hlt : k < count
    · have hi : (k : Int) < count := by omega
      obtain ⟨x, hx⟩ : ∃ x, Xs[k]? = some x := ⟨_, List.getElem?_eq_getElem (by have := HL.out; omega)⟩
      have hxl := HXX.out x (List.mem_of_getElem? hx)
      have HX := hide hx
      have C2 := hide (HC.out k x hx)
      clear hx
      go_wp2_with fail
      refine (C2.out wr HB2.out).mono ?_
      rintro e w2 ⟨A2, d2, rfl, ho2, hb2⟩
      have HO3 := hide (HO2.out.below hb2 (Nat.le_refl _))
      have HB3 := hide (bel_step HB2.out hb2 HB2.out.size)
      have HR2 := hide ho2.rd
      clear ho2 hb2
      go_wp2_with (at_builtin; refine app rfl _ _ rfl rfl rfl E8 HO3.out HR2.out (one8all _) (by omega) HB3.out.size ?_; intro B3 d3 w3 ho3 hg3 hl3)
      go_roundw
      case rel =>
        refine ⟨k + 1, N + x.length, B3, d3, by omega, by go_num, rfl, hide ?_, hide ?_, hide (bel_grown HB3.out hg3 HB3.out.size (fun g hg => (HO3.out.blk_lt g hg).1))⟩
        · rw [fm_step HX.out, ← List.append_assoc, List.length_append, ← HN.out]
          rfl
        · rw [fm_step HX.out, ← List.append_assoc]
          simpa [by8] using ho3
      case measure => simp [intOf]; omega
    · obtain rfl : k = count := by omega
      go_wp2_with fail
      go_ret
      have h1 := HN.out
      have h2 := HO2.out
      rw [fm_full HL.out, HRR.out] at h1 h2
      rw [← h1]
      exact ⟨As, d, rfl, h2, HB2.out⟩
set_option maxRecDepth 100000 in
set_option maxHeartbeats 4000000 in
theorem iParts5 (cap : Addr) (Xs : List (List Int)) (count : Nat) (w : World) (hl : Xs.length = count) (hc : (count : Int) ≤ 60) (hX : ∀ x ∈ Xs, x.length ≤ 17000)
    (hcall : ∀ (k : Nat) (x : List Int), Xs[k]? = some x → ∀ W, Below w.heap.size w W → Calls Tryz.prog 50 #[.int .i64 k, .pointer (some cap)] W (Fresh 5 1 x.length (by8 x) W)) :
    Calls Tryz.prog 42 #[.int .i64 count, .func (.func 50) #[] #[.pointer (some cap)]] w (Fresh 5 1 (u count ++ Xs.flatMap id).length (by8 (u count ++ Xs.flatMap id)) w) := by
  have hz := u_le (count : Int)
  have C1 := hide (nil_put (fun A n' c bs w hr hn => iPutU A n' c bs (count : Int) w hr hn))
  obtain ⟨P, hP⟩ : ∃ P, u (count : Int) = P := ⟨_, rfl⟩
  rw [hP] at C1 hz ⊢
  obtain ⟨R, hR⟩ : ∃ R, P ++ Xs.flatMap id = R := ⟨_, rfl⟩
  rw [hR]
  have HRR := hide hR
  have HC := hide hcall
  have HXX := hide hX
  have HL := hide hl
  have HT := hide (show ∀ k, ((Xs.take k).flatMap id).length ≤ 1020000 from fun k => fm_take (K := 17000) (f := id) hX (by omega) (Nat.le_refl _))
  clear hP hR hcall hX hl
  go_enter Tryz.func42, Tryz.ntmps42
  go_wp2_with fail
  refine (C1.out w).mono ?_
  rintro e w1 ⟨A1, d1, rfl, ho, hb⟩
  have HO := hide ho
  have HB := hide hb
  clear ho hb
  go_wp2_with fail
  go_loopw [5, 6] (fun s i wr => ∃ (k N : Nat) (As : Option Addr) (d : Nat), k ≤ count ∧ i = .int .i64 k ∧ s = .slice As N d ∧ Hid (N = (P ++ (Xs.take k).flatMap id).length) ∧ Hid (Ow wr w.heap.size 5 1 As N d (by8 (P ++ (Xs.take k).flatMap id))) ∧ Hid (Below w.heap.size w wr)) (fun _ i _ => count - (intOf i).toNat)
  case atStart => exact ⟨0, _, A1, d1, Nat.zero_le _, rfl, rfl, hide (by simp), hide (by simpa using HO.out), HB⟩
  case round =>
    obtain ⟨k, N, As, d, hk, rfl, rfl, HN, HO2, HB2⟩ := hrel
    have hN : (N : Int) ≤ 1020005 := by have := HT.out k; have := HN.out; rw [List.length_append] at this; omega
    by_cases hlt : k < count
    · have hi : (k : Int) < count := by omega
      obtain ⟨x, hx⟩ : ∃ x, Xs[k]? = some x := ⟨_, List.getElem?_eq_getElem (by have := HL.out; omega)⟩
      have hxl := HXX.out x (List.mem_of_getElem? hx)
      have HX := hide hx
      have C2 := hide (HC.out k x hx)
      clear hx
      go_wp2_with fail
      refine (C2.out wr HB2.out).mono ?_
      rintro e w2 ⟨A2, d2, rfl, ho2, hb2⟩
      have HO3 := hide (HO2.out.below hb2 (Nat.le_refl _))
      have HB3 := hide (bel_step HB2.out hb2 HB2.out.size)
      have HR2 := hide ho2.rd
      clear ho2 hb2
      go_wp2_with (at_builtin; refine app rfl _ _ rfl rfl rfl E8 HO3.out HR2.out (one8all _) (by omega) HB3.out.size ?_; intro B3 d3 w3 ho3 hg3 hl3)
      go_roundw
      case rel =>
        refine ⟨k + 1, N + x.length, B3, d3, by omega, by go_num, rfl, hide ?_, hide ?_, hide (bel_grown HB3.out hg3 HB3.out.size (fun g hg => (HO3.out.blk_lt g hg).1))⟩
        · rw [fm_step HX.out, ← List.append_assoc, List.length_append, ← HN.out]
          rfl
        · rw [fm_step HX.out, ← List.append_assoc]
          simpa [by8] using ho3
      case measure => simp [intOf]; omega
    · obtain rfl : k = count := by omega
      go_wp2_with fail
      go_ret
      have h1 := HN.out
      have h2 := HO2.out
      rw [fm_full HL.out, HRR.out] at h1 h2
      rw [← h1]
      exact ⟨As, d, rfl, h2, HB2.out⟩
set_option maxRecDepth 100000 in
set_option maxHeartbeats 4000000 in
theorem iParts6 (cap : Addr) (Xs : List (List Int)) (count : Nat) (w : World) (hl : Xs.length = count) (hc : (count : Int) ≤ 60) (hX : ∀ x ∈ Xs, x.length ≤ 17000)
    (hcall : ∀ (k : Nat) (x : List Int), Xs[k]? = some x → ∀ W, Below w.heap.size w W → Calls Tryz.prog 52 #[.int .i64 k, .pointer (some cap)] W (Fresh 5 1 x.length (by8 x) W)) :
    Calls Tryz.prog 42 #[.int .i64 count, .func (.func 52) #[] #[.pointer (some cap)]] w (Fresh 5 1 (u count ++ Xs.flatMap id).length (by8 (u count ++ Xs.flatMap id)) w) := by
  have hz := u_le (count : Int)
  have C1 := hide (nil_put (fun A n' c bs w hr hn => iPutU A n' c bs (count : Int) w hr hn))
  obtain ⟨P, hP⟩ : ∃ P, u (count : Int) = P := ⟨_, rfl⟩
  rw [hP] at C1 hz ⊢
  obtain ⟨R, hR⟩ : ∃ R, P ++ Xs.flatMap id = R := ⟨_, rfl⟩
  rw [hR]
  have HRR := hide hR
  have HC := hide hcall
  have HXX := hide hX
  have HL := hide hl
  have HT := hide (show ∀ k, ((Xs.take k).flatMap id).length ≤ 1020000 from fun k => fm_take (K := 17000) (f := id) hX (by omega) (Nat.le_refl _))
  clear hP hR hcall hX hl
  go_enter Tryz.func42, Tryz.ntmps42
  go_wp2_with fail
  refine (C1.out w).mono ?_
  rintro e w1 ⟨A1, d1, rfl, ho, hb⟩
  have HO := hide ho
  have HB := hide hb
  clear ho hb
  go_wp2_with fail
  go_loopw [5, 6] (fun s i wr => ∃ (k N : Nat) (As : Option Addr) (d : Nat), k ≤ count ∧ i = .int .i64 k ∧ s = .slice As N d ∧ Hid (N = (P ++ (Xs.take k).flatMap id).length) ∧ Hid (Ow wr w.heap.size 5 1 As N d (by8 (P ++ (Xs.take k).flatMap id))) ∧ Hid (Below w.heap.size w wr)) (fun _ i _ => count - (intOf i).toNat)
  case atStart => exact ⟨0, _, A1, d1, Nat.zero_le _, rfl, rfl, hide (by simp), hide (by simpa using HO.out), HB⟩
  case round =>
    obtain ⟨k, N, As, d, hk, rfl, rfl, HN, HO2, HB2⟩ := hrel
    have hN : (N : Int) ≤ 1020005 := by have := HT.out k; have := HN.out; rw [List.length_append] at this; omega
    by_cases hlt : k < count
    · have hi : (k : Int) < count := by omega
      obtain ⟨x, hx⟩ : ∃ x, Xs[k]? = some x := ⟨_, List.getElem?_eq_getElem (by have := HL.out; omega)⟩
      have hxl := HXX.out x (List.mem_of_getElem? hx)
      have HX := hide hx
      have C2 := hide (HC.out k x hx)
      clear hx
      go_wp2_with fail
      refine (C2.out wr HB2.out).mono ?_
      rintro e w2 ⟨A2, d2, rfl, ho2, hb2⟩
      have HO3 := hide (HO2.out.below hb2 (Nat.le_refl _))
      have HB3 := hide (bel_step HB2.out hb2 HB2.out.size)
      have HR2 := hide ho2.rd
      clear ho2 hb2
      go_wp2_with (at_builtin; refine app rfl _ _ rfl rfl rfl E8 HO3.out HR2.out (one8all _) (by omega) HB3.out.size ?_; intro B3 d3 w3 ho3 hg3 hl3)
      go_roundw
      case rel =>
        refine ⟨k + 1, N + x.length, B3, d3, by omega, by go_num, rfl, hide ?_, hide ?_, hide (bel_grown HB3.out hg3 HB3.out.size (fun g hg => (HO3.out.blk_lt g hg).1))⟩
        · rw [fm_step HX.out, ← List.append_assoc, List.length_append, ← HN.out]
          rfl
        · rw [fm_step HX.out, ← List.append_assoc]
          simpa [by8] using ho3
      case measure => simp [intOf]; omega
    · obtain rfl : k = count := by omega
      go_wp2_with fail
      go_ret
      have h1 := HN.out
      have h2 := HO2.out
      rw [fm_full HL.out, HRR.out] at h1 h2
      rw [← h1]
      exact ⟨As, d, rfl, h2, HB2.out⟩
set_option maxRecDepth 100000 in
set_option maxHeartbeats 4000000 in
theorem iParts7 (cap : Addr) (Xs : List (List Int)) (count : Nat) (w : World) (hl : Xs.length = count) (hc : (count : Int) ≤ 60) (hX : ∀ x ∈ Xs, x.length ≤ 17000)
    (hcall : ∀ (k : Nat) (x : List Int), Xs[k]? = some x → ∀ W, Below w.heap.size w W → Calls Tryz.prog 53 #[.int .i64 k, .pointer (some cap)] W (Fresh 5 1 x.length (by8 x) W)) :
    Calls Tryz.prog 42 #[.int .i64 count, .func (.func 53) #[] #[.pointer (some cap)]] w (Fresh 5 1 (u count ++ Xs.flatMap id).length (by8 (u count ++ Xs.flatMap id)) w) := by
  have hz := u_le (count : Int)
  have C1 := hide (nil_put (fun A n' c bs w hr hn => iPutU A n' c bs (count : Int) w hr hn))
  obtain ⟨P, hP⟩ : ∃ P, u (count : Int) = P := ⟨_, rfl⟩
  rw [hP] at C1 hz ⊢
  obtain ⟨R, hR⟩ : ∃ R, P ++ Xs.flatMap id = R := ⟨_, rfl⟩
  rw [hR]
  have HRR := hide hR
  have HC := hide hcall
  have HXX := hide hX
  have HL := hide hl
  have HT := hide (show ∀ k, ((Xs.take k).flatMap id).length ≤ 1020000 from fun k => fm_take (K := 17000) (f := id) hX (by omega) (Nat.le_refl _))
  clear hP hR hcall hX hl
  go_enter Tryz.func42, Tryz.ntmps42
  go_wp2_with fail
  refine (C1.out w).mono ?_
  rintro e w1 ⟨A1, d1, rfl, ho, hb⟩
  have HO := hide ho
  have HB := hide hb
  clear ho hb
  go_wp2_with fail
  go_loopw [5, 6] (fun s i wr => ∃ (k N : Nat) (As : Option Addr) (d : Nat), k ≤ count ∧ i = .int .i64 k ∧ s = .slice As N d ∧ Hid (N = (P ++ (Xs.take k).flatMap id).length) ∧ Hid (Ow wr w.heap.size 5 1 As N d (by8 (P ++ (Xs.take k).flatMap id))) ∧ Hid (Below w.heap.size w wr)) (fun _ i _ => count - (intOf i).toNat)
  case atStart => exact ⟨0, _, A1, d1, Nat.zero_le _, rfl, rfl, hide (by simp), hide (by simpa using HO.out), HB⟩
  case round =>
    obtain ⟨k, N, As, d, hk, rfl, rfl, HN, HO2, HB2⟩ := hrel
    have hN : (N : Int) ≤ 1020005 := by have := HT.out k; have := HN.out; rw [List.length_append] at this; omega
    by_cases hlt : k < count
    · have hi : (k : Int) < count := by omega
      obtain ⟨x, hx⟩ : ∃ x, Xs[k]? = some x := ⟨_, List.getElem?_eq_getElem (by have := HL.out; omega)⟩
      have hxl := HXX.out x (List.mem_of_getElem? hx)
      have HX := hide hx
      have C2 := hide (HC.out k x hx)
      clear hx
      go_wp2_with fail
      refine (C2.out wr HB2.out).mono ?_
      rintro e w2 ⟨A2, d2, rfl, ho2, hb2⟩
      have HO3 := hide (HO2.out.below hb2 (Nat.le_refl _))
      have HB3 := hide (bel_step HB2.out hb2 HB2.out.size)
      have HR2 := hide ho2.rd
      clear ho2 hb2
      go_wp2_with (at_builtin; refine app rfl _ _ rfl rfl rfl E8 HO3.out HR2.out (one8all _) (by omega) HB3.out.size ?_; intro B3 d3 w3 ho3 hg3 hl3)
      go_roundw
      case rel =>
        refine ⟨k + 1, N + x.length, B3, d3, by omega, by go_num, rfl, hide ?_, hide ?_, hide (bel_grown HB3.out hg3 HB3.out.size (fun g hg => (HO3.out.blk_lt g hg).1))⟩
        · rw [fm_step HX.out, ← List.append_assoc, List.length_append, ← HN.out]
          rfl
        · rw [fm_step HX.out, ← List.append_assoc]
          simpa [by8] using ho3
      case measure => simp [intOf]; omega
    · obtain rfl : k = count := by omega
      go_wp2_with fail
      go_ret
      have h1 := HN.out
      have h2 := HO2.out
      rw [fm_full HL.out, HRR.out] at h1 h2
      rw [← h1]
      exact ⟨As, d, rfl, h2, HB2.out⟩
set_option maxRecDepth 100000 in
set_option maxHeartbeats 4000000 in
theorem iParts8 (cap : Addr) (Xs : List (List Int)) (count : Nat) (w : World) (hl : Xs.length = count) (hc : (count : Int) ≤ 60) (hX : ∀ x ∈ Xs, x.length ≤ 17000)
    (hcall : ∀ (k : Nat) (x : List Int), Xs[k]? = some x → ∀ W, Below w.heap.size w W → Calls Tryz.prog 55 #[.int .i64 k, .pointer (some cap)] W (Fresh 5 1 x.length (by8 x) W)) :
    Calls Tryz.prog 42 #[.int .i64 count, .func (.func 55) #[] #[.pointer (some cap)]] w (Fresh 5 1 (u count ++ Xs.flatMap id).length (by8 (u count ++ Xs.flatMap id)) w) := by
  have hz := u_le (count : Int)
  have C1 := hide (nil_put (fun A n' c bs w hr hn => iPutU A n' c bs (count : Int) w hr hn))
  obtain ⟨P, hP⟩ : ∃ P, u (count : Int) = P := ⟨_, rfl⟩
  rw [hP] at C1 hz ⊢
  obtain ⟨R, hR⟩ : ∃ R, P ++ Xs.flatMap id = R := ⟨_, rfl⟩
  rw [hR]
  have HRR := hide hR
  have HC := hide hcall
  have HXX := hide hX
  have HL := hide hl
  have HT := hide (show ∀ k, ((Xs.take k).flatMap id).length ≤ 1020000 from fun k => fm_take (K := 17000) (f := id) hX (by omega) (Nat.le_refl _))
  clear hP hR hcall hX hl
  go_enter Tryz.func42, Tryz.ntmps42
  go_wp2_with fail
  refine (C1.out w).mono ?_
  rintro e w1 ⟨A1, d1, rfl, ho, hb⟩
  have HO := hide ho
  have HB := hide hb
  clear ho hb
  go_wp2_with fail
  go_loopw [5, 6] (fun s i wr => ∃ (k N : Nat) (As : Option Addr) (d : Nat), k ≤ count ∧ i = .int .i64 k ∧ s = .slice As N d ∧ Hid (N = (P ++ (Xs.take k).flatMap id).length) ∧ Hid (Ow wr w.heap.size 5 1 As N d (by8 (P ++ (Xs.take k).flatMap id))) ∧ Hid (Below w.heap.size w wr)) (fun _ i _ => count - (intOf i).toNat)
  case atStart => exact ⟨0, _, A1, d1, Nat.zero_le _, rfl, rfl, hide (by simp), hide (by simpa using HO.out), HB⟩
  case round =>
    obtain ⟨k, N, As, d, hk, rfl, rfl, HN, HO2, HB2⟩ := hrel
    have hN : (N : Int) ≤ 1020005 := by have := HT.out k; have := HN.out; rw [List.length_append] at this; omega
    by_cases hlt : k < count
    · have hi : (k : Int) < count := by omega
      obtain ⟨x, hx⟩ : ∃ x, Xs[k]? = some x := ⟨_, List.getElem?_eq_getElem (by have := HL.out; omega)⟩
      have hxl := HXX.out x (List.mem_of_getElem? hx)
      have HX := hide hx
      have C2 := hide (HC.out k x hx)
      clear hx
      go_wp2_with fail
      refine (C2.out wr HB2.out).mono ?_
      rintro e w2 ⟨A2, d2, rfl, ho2, hb2⟩
      have HO3 := hide (HO2.out.below hb2 (Nat.le_refl _))
      have HB3 := hide (bel_step HB2.out hb2 HB2.out.size)
      have HR2 := hide ho2.rd
      clear ho2 hb2
      go_wp2_with (at_builtin; refine app rfl _ _ rfl rfl rfl E8 HO3.out HR2.out (one8all _) (by omega) HB3.out.size ?_; intro B3 d3 w3 ho3 hg3 hl3)
      go_roundw
      case rel =>
        refine ⟨k + 1, N + x.length, B3, d3, by omega, by go_num, rfl, hide ?_, hide ?_, hide (bel_grown HB3.out hg3 HB3.out.size (fun g hg => (HO3.out.blk_lt g hg).1))⟩
        · rw [fm_step HX.out, ← List.append_assoc, List.length_append, ← HN.out]
          rfl
        · rw [fm_step HX.out, ← List.append_assoc]
          simpa [by8] using ho3
      case measure => simp [intOf]; omega
    · obtain rfl : k = count := by omega
      go_wp2_with fail
      go_ret
      have h1 := HN.out
      have h2 := HO2.out
      rw [fm_full HL.out, HRR.out] at h1 h2
      rw [← h1]
      exact ⟨As, d, rfl, h2, HB2.out⟩
end Go.Proofs.YtiinkfejdnfonaaGreatDoor.Mb
