/- The reference's reading of a body's text: its contract. -/
import Derived.Test.YtiinkfejdnfonaaDoorCutC
namespace Go.Proofs.YtiinkfejdnfonaaDoor.Cut
open Go.RowKit Go.Proofs.YtiinkfejdnfonaaDoor.Num Go.Proofs.YtiinkfejdnfonaaDoor.NumC Go.Proofs.YtiinkfejdnfonaaDoor.Mem Go.Proofs.YtiinkfejdnfonaaDoor.Ops Go.Proofs.YtiinkfejdnfonaaDoor.Shape Go.Proofs.YtiinkfejdnfonaaDoor.Bt Go.Proofs.YtiinkfejdnfonaaDoor.Tn Go.Proofs.YtiinkfejdnfonaaDoor.Dig
set_option linter.unusedVariables false
/-- what TextBody hands back -/
def BodyR (s : ByteArray) (w : World) (e : Ending) (w' : World) : Prop :=
  ∃ (A : Option Addr) (N c : Nat), (bodyP s).1.length = N ∧ e = .returned (.tuple #[.slice A N c, .bool (bodyP s).2]) ∧ Ow w' w.heap.size 61 3 A N c (insC (bodyP s).1) ∧ Below w.heap.size w w'
set_option maxRecDepth 100000 in
set_option maxHeartbeats 4000000 in
theorem sTextBody (s : ByteArray) (w : World) (hs : s.size ≤ 1048576) : Calls Tryd.prog 12 #[.string s] w (BodyR s w) := by
  by_cases he : s = ⟨#[]⟩
  · subst he
    go_enter Tryd.func12, Tryd.ntmps12
    go_wp2_with fail
    go_ret2
    exact ⟨_, 0, 0, rfl, rfl, World.ownsRow_made w #[] 0 (Nat.le_refl _) (Nat.zero_le _) (by simp), (Below.refl _ _).alloc (Nat.le_refl _) _⟩
  · have hne : s.toList.isEmpty = false := by
      cases h : s.toList.isEmpty with
      | false => rfl
      | true =>
        exfalso
        apply he
        apply ba_eq
        rw [← ByteArray.toList_eq]
        simpa using h
    have hs' : (s.size : Int) ≤ 1048576 := by omega
    have HC := hide (fun w => l03Cut_c 59 s w hs)
    have HE := hide he
    have HLn := hide (cutW_len 59 s)
    obtain ⟨ps, hps⟩ : ∃ ps, cutW 59 s = ps := ⟨_, rfl⟩
    rw [hps] at HC HLn
    have HP := hide hps
    obtain ⟨n, hn⟩ : ∃ n, ps.length = n := ⟨_, rfl⟩
    rw [hn] at HC HLn
    have hnb : (n : Int) ≤ 1048577 := by have := HLn.out; omega
    have HL := hide hn
    clear he hs hps hn
    go_enter Tryd.func12, Tryd.ntmps12
    go_wp2_with fail
    refine (HC.out _).mono ?_
    rintro e w1 ⟨A1, c1, rfl, ho, hb⟩
    have HO1 := hide ho.rd
    have HOA := hide ho
    have HOB := hide (Ow.below (own_empS w 61 3) hb (Nat.le_refl _))
    have HB1 := hide (bel_step ((Below.refl w.heap.size w).alloc (Nat.le_refl _) (.cells #[] 61)) hb (by simp))
    clear ho hb HC
    go_wp2_with fail
    have hA1 := hide (show ∀ g, blk A1 = some g → w.heap.size + 1 ≤ g by
      intro g hg
      have := (HOA.out.blk_lt g hg).1
      simpa using this)
    obtain ⟨L, hL⟩ : ∃ L, ps.map insOf = L := ⟨_, rfl⟩
    have HLL := hide hL
    go_loopw [4, 16] (fun o i wr => ∃ (k : Nat) (B : Option Addr) (cb : Nat), i = .int .i64 k ∧ o = .slice B k cb ∧ k ≤ n ∧ Hid (LS w L ps A1 n B k cb wr)) (fun _ i _ => n - (intOf i).toNat)
    case atStart =>
      refine ⟨0, _, 0, rfl, rfl, Nat.zero_le _, hide ⟨HOB.out, HO1.out, ?_, fun g hg => (HOA.out.blk_lt g hg).2, HB1.out⟩⟩
      intro h
      have := hA1.out w.heap.size h.symm
      omega
    case round =>
      obtain ⟨k, B, cb, rfl, rfl, hk, HS⟩ := hrel
      by_cases hlt : k < n
      · obtain ⟨b, off, hA1e, p, hp, hcell, hblt⟩ := get_str HS.out.rd k hlt (fun _ _ => rfl)
        subst hA1e
        have hi0 : (0 : Int) ≤ k := by omega
        have hi1 : (k : Int) < n := by omega
        have hpm := List.mem_of_getElem? hp
        rw [← HP.out] at hpm
        have hps := cutW_piece 59 s p hpm
        have HC2 := hide (fun w => l03Cut_c 32 p w (by omega))
        obtain ⟨ws, hws⟩ : ∃ ws, cutW 32 p = ws := ⟨_, rfl⟩
        have hw0 : 0 < ws.length := by rw [← hws]; exact List.length_pos_iff.2 (cutW_ne 32 p)
        have hwz : ∀ x ∈ ws, (x.size : Int) ≤ 1048576 := fun x hx => by have := cutW_piece 32 p x (by rw [hws]; exact hx); omega
        have HWZ := hide hwz
        have HLk0 := hide (show L[k]? = some (insOf p) by rw [← HLL.out, List.getElem?_map, hp]; rfl)
        have HI := hide (show insOf p = (nameOp (ws.getD 0 ⟨#[]⟩), (if 1 < ws.length then tnum (ws.getD 1 ⟨#[]⟩) else 0), (if 2 < ws.length then tnum (ws.getD 2 ⟨#[]⟩) else 0)) by rw [← hws]; rfl)
        rw [hws] at HC2
        obtain ⟨m, hm⟩ : ∃ m, ws.length = m := ⟨_, rfl⟩
        have HM := hide hm
        rw [hm] at HC2 hw0 HI
        clear hp hpm hps hws hwz hm
        go_wp2_with fail
        refine (HC2.out _).mono ?_
        clear HC2
        rintro e w2 ⟨A2, c2, rfl, ho2, hb2⟩
        have HR2 := hide ho2.rd
        have HS2 := hide (HS.out.step hb2)
        clear ho2 hb2
        obtain ⟨b2, off2, hA2e, x0, hx0, hc0, _⟩ := get_str HR2.out 0 hw0 (fun _ _ => rfl)
        subst hA2e
        have hx0' : ws.getD 0 ⟨#[]⟩ = x0 := by simp [List.getD, hx0]
        rw [hx0'] at HI
        have hm0 : (0 : Int) < m := by omega
        simp only [Nat.add_zero] at hc0
        clear hx0 hx0'
        go_wp2_with fail
        refine (sNameOp x0 w2).mono ?_
        rintro e w3 ⟨rfl, hb3⟩
        have HS3 := hide (HS2.out.step hb3)
        have HR3 := hide (HR2.out.bel hb3)
        clear hb3 HR2 HS2 hc0
        obtain ⟨op, hop⟩ : ∃ op, nameOp x0 = op := ⟨_, rfl⟩
        rw [hop] at HI ⊢
        clear hop
        have HSa := hide (HS3.out.step ((Below.refl _ _).alloc (Nat.le_refl _) (.cells #[.int .i64 op, .int .i64 0, .int .i64 0] 61)))
        by_cases h1 : (1 : Int) < m
        · obtain ⟨x1, hx1⟩ : ∃ x1, ws.getD 1 ⟨#[]⟩ = x1 := ⟨_, rfl⟩
          have hz1 : (x1.size : Int) ≤ 1048576 := by
            apply HWZ.out x1
            rw [← hx1]
            simp only [List.getD]
            rw [List.getElem?_eq_getElem (show 1 < ws.length by have := HM.out; omega)]
            exact List.getElem_mem _
          have hV := V3.new w3 op 0 0
          have hs1 := str_at HR3.out (show 1 < m by omega) HM.out hV.bel
          rw [hx1] at hs1 HI
          have HT := hide (sTextNum x1 (w3.alloc (.cells #[.int .i64 op, .int .i64 0, .int .i64 0] 61)) hz1)
          have HV := hide hV
          clear hV hx1 hz1 HSa
          go_wp2_with fail
          refine HT.out.mono ?_
          clear HT hs1
          rintro e w5 ⟨htn, hb5⟩
          obtain ⟨ok1, rfl⟩ := tn_val htn
          obtain ⟨y1, hy1⟩ : ∃ y1, tnum x1 = y1 := ⟨_, rfl⟩
          rw [hy1] at HI ⊢
          have hV5 := HV.out.call hb5
          have v0 := hV5.c0
          have v1 := hV5.c1
          have v2 := hV5.c2
          have g1 := hV5.f1
          have HV5 := hide hV5
          clear hV5 htn hb5 hy1 HV
          by_cases h2 : (2 : Int) < m
          · have hm3 : ¬ m = 0 := by omega
            obtain ⟨x2, hx2⟩ : ∃ x2, ws.getD 2 ⟨#[]⟩ = x2 := ⟨_, rfl⟩
            have hz2 : (x2.size : Int) ≤ 1048576 := by
              apply HWZ.out x2
              rw [← hx2]
              simp only [List.getD]
              rw [List.getElem?_eq_getElem (show 2 < ws.length by have := HM.out; omega)]
              exact List.getElem_mem _
            have hV6 := HV5.out.set1 y1
            have hs2 := str_at HR3.out (show 2 < m by omega) HM.out hV6.bel
            rw [hx2] at hs2 HI
            have HT := hide (sTextNum x2 (w5.setCell ⟨w3.heap.size, 1, none⟩ (.int .i64 y1)) hz2)
            have HV6 := hide hV6
            clear hV6 hx2 hz2 hm3
            go_wp2_with fail
            refine HT.out.mono ?_
            clear HT hs2 v0 v1 v2 g1
            rintro e w7 ⟨htn, hb7⟩
            obtain ⟨ok2, rfl⟩ := tn_val htn
            obtain ⟨y2, hy2⟩ : ∃ y2, tnum x2 = y2 := ⟨_, rfl⟩
            rw [hy2] at HI ⊢
            have hV7 := HV6.out.call hb7
            have v0 := hV7.c0
            have v1 := hV7.c1
            have v2 := hV7.c2
            have g2 := hV7.f2
            have HLk := hide (show L[k]? = some (op, y1, y2) by rw [HLk0.out, HI.out, if_pos (by omega), if_pos (by omega)])
            have hV8 := hV7.set2 y2
            have HF := hide (HS3.out.step hV8.bel)
            have u0 := hV8.c0
            have u1 := hV8.c1
            have u2' := hV8.c2
            clear hV7 hV8 htn hb7 hy2 HV6
            go_wp2_with (at_builtin; refine app1x rfl _ _ rfl rfl rfl (by simp) E3 HF.out.own rfl (one3 _ _ _) (by omega) HF.out.bel.size ?_; intro B4 d4 w4 ho4 hg4 hl4)
            refine ⟨⟨k + 1, B4, d4, by go_num, rfl, by omega, hide (HF.out.next ho4 hg4 hl4 HLk.out)⟩, ?_⟩
            simp [intOf]
            omega
          · have hm1 : m = 2 := by omega
            subst hm1
            have HLk := hide (show L[k]? = some (op, y1, 0) by rw [HLk0.out, HI.out]; simp)
            have hV6 := HV5.out.set1 y1
            have HF := hide (HS3.out.step hV6.bel)
            have u0 := hV6.c0
            have u1 := hV6.c1
            have u2' := hV6.c2
            clear hV6
            go_wp2_with (at_builtin; refine app1x rfl _ _ rfl rfl rfl (by simp) E3 HF.out.own rfl (one3 _ _ _) (by omega) HF.out.bel.size ?_; intro B4 d4 w4 ho4 hg4 hl4)
            refine ⟨⟨k + 1, B4, d4, by go_num, rfl, by omega, hide (HF.out.next ho4 hg4 hl4 HLk.out)⟩, ?_⟩
            simp [intOf]
            omega
        · have hm1 : m = 1 := by omega
          subst hm1
          have HLk := hide (show L[k]? = some (op, 0, 0) by rw [HLk0.out, HI.out]; simp)
          have HF := HSa
          go_wp2_with (at_builtin; refine app1x rfl _ _ rfl rfl rfl (by simp) E3 HF.out.own rfl (one3 _ _ _) (by omega) HF.out.bel.size ?_; intro B4 d4 w4 ho4 hg4 hl4)
          refine ⟨⟨k + 1, B4, d4, by go_num, rfl, by omega, hide (HF.out.next ho4 hg4 hl4 HLk.out)⟩, ?_⟩
          simp [intOf]
          omega
      · obtain rfl : k = n := by omega
        have hkn : decide ((k : Int) < k) = false := decide_eq_false (by omega)
        have HLL2 := hide (show L.length = k by rw [← HLL.out, List.length_map, HL.out])
        have HOL := hide (show Ow wr w.heap.size 61 3 B k cb (insC L) by have := HS.out.own; rwa [List.take_of_length_le (by have := HLL2.out; omega)] at this)
        have HBT := hide (sBodyText B k cb L wr HOL.out.rd (by omega))
        obtain ⟨T, hT⟩ : ∃ T, bodyT L = T := ⟨_, rfl⟩
        rw [hT] at HBT
        have hpt := body_test s HE.out
        rw [HP.out, HLL.out, hT] at hpt
        have hts : (T.toList == s.toList) = decide (T = s) := by
          by_cases h : T = s
          · rw [h]; simp
          · rw [decide_eq_false h, beq_eq_false_iff_ne, ByteArray.toList_eq, ByteArray.toList_eq]
            intro e
            exact h (ba_eq e)
        obtain ⟨R, hR⟩ : ∃ R, ps.all partOk = R := ⟨_, rfl⟩
        rw [hts.symm, hR] at hpt
        have hbp : bodyP s = if R then (L, true) else ([], false) := by
          unfold bodyP
          rw [if_neg HE.out, HP.out, hR, HLL.out]
        have HBP := hide hbp
        clear hT hts hR hbp
        cases R
        · go_wp2_with fail
          refine HBT.out.mono ?_
          rintro e w5 ⟨rfl, hb5⟩
          have HB5 := hide (bel_step HS.out.bel hb5 HS.out.bel.size)
          clear hb5
          go_wp2_with fail
          go_ret2
          refine ⟨none, 0, 0, by rw [HBP.out]; rfl, by rw [HBP.out]; rfl, ?_, HB5.out⟩
          rw [HBP.out]
          exact Ow.base_le (World.ownsRow_nil w5 _ _ _) HB5.out.size
        · go_wp2_with fail
          refine HBT.out.mono ?_
          rintro e w5 ⟨rfl, hb5⟩
          have HO5 := hide (HOL.out.below hb5 (Nat.le_refl _))
          have HB5 := hide (bel_step HS.out.bel hb5 HS.out.bel.size)
          clear hb5
          go_wp2_with fail
          go_ret2
          refine ⟨B, k, cb, by rw [HBP.out]; exact HLL2.out, by rw [HBP.out]; rfl, ?_, HB5.out⟩
          rw [HBP.out]
          exact HO5.out
end Go.Proofs.YtiinkfejdnfonaaDoor.Cut
