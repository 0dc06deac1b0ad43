/- The library's cut of a text at one byte, and the program's reading of a body's text: a contract each. -/
import Derived.Test.YtiinkfejdnfonaaDoorCutS
namespace Go.Proofs.YtiinkfejdnfonaaDoor.Cut
open Go.RowKit Go.Proofs.YtiinkfejdnfonaaDoor.Num Go.Proofs.YtiinkfejdnfonaaDoor.NumC Go.Proofs.YtiinkfejdnfonaaDoor.Mem Go.Proofs.YtiinkfejdnfonaaDoor.Ops Go.Proofs.YtiinkfejdnfonaaDoor.Shape Go.Proofs.YtiinkfejdnfonaaDoor.Bt Go.Proofs.YtiinkfejdnfonaaDoor.Tn Go.Proofs.YtiinkfejdnfonaaDoor.Dig
set_option linter.unusedVariables false
/-- the library's word on its longest needle holds a number -/
def LenAt (w : World) : Prop := ∃ m : Int, w.cell? ⟨3, 0, none⟩ = some (.int .i64 m)
theorem lenAt_bel {w w' : World} (h : LenAt w) (hb : Below w.heap.size w w') : LenAt w' := by
  obtain ⟨m, h⟩ := h
  exact ⟨m, (hb.cell (p := ⟨3, 0, none⟩) (World.block_lt_of_cell? w _ h)).trans h⟩
theorem split_eq (c : UInt8) (s : ByteArray) : Lib.splitB ⟨#[c]⟩ 0 (Lib.countB s ⟨#[c]⟩) s = cutW c s := by
  apply map_data_inj
  rw [cutW_data, Lib.splitB_data]
  exact split_cut c s.data.toList
theorem split_c (c : UInt8) (s : ByteArray) (w : World) (hs : s.size ≤ 1048576) (hM : LenAt w) :
    Calls Tryd.prog 36 #[.string s, .string ⟨#[c]⟩] w (Fresh 9 1 (cutW c s).length (strC (cutW c s)) w) := by
  obtain ⟨m, hm⟩ := hM
  refine (Tryd.strings_Split s ⟨#[c]⟩ m w (by omega) hm (Nat.le_refl 1)).mono ?_
  rintro e w' ⟨rfl, rfl⟩
  have h1 := split_eq c s
  have h2 := Lib.splitB_all ⟨#[c]⟩ (Nat.le_refl 1) 0 _ s rfl
  rw [h1] at h2 ⊢
  rw [← h2]
  have h3 := cutW_len c s
  refine ⟨_, _, rfl, ?_, (Below.refl _ _).alloc (Nat.le_refl _) _⟩
  have h4 := World.ownsRow_lit (base := w.heap.size) (size := 1) (e := 9) w ((cutW c s).map Value.string).toArray (cutW c s).length (Nat.le_refl _) (by unfold maxLen; omega) (by simp)
  exact h4
/-- what TextBody reads of the library's variables -/
def LibB (w : World) : Prop := Tab w ∧ Lib3 w ∧ LenAt w
theorem libB_bel {w w' : World} (h : LibB w) (hb : Below w.heap.size w w') : LibB w' := ⟨tabS_bel h.1 hb, lib3_bel h.2.1 hb, lenAt_bel h.2.2 hb⟩
theorem all_no {ps : List ByteArray} {p : ByteArray} {k : Nat} (h : ps[k]? = some p) (hp : partOk p = false) : ps.all partOk = false := by
  cases h2 : ps.all partOk with
  | false => rfl
  | true => rw [List.all_eq_true.1 h2 p (List.mem_of_getElem? h)] at hp; cases hp
theorem part_val (p : ByteArray) (x : Ins3) (h : insOf p = x) : partOk p = (insOk x && decide (txt x = p)) := by unfold partOk; rw [h]
theorem txt_test (a b : ByteArray) : (a.toList == b.toList) = decide (a = b) := by
  by_cases h : a = b
  · rw [h]; simp
  · rw [decide_eq_false h, beq_eq_false_iff_ne, ByteArray.toList_eq, ByteArray.toList_eq]
    intro e
    exact h (ba_eq e)
/-- what TextBody hands back -/
theorem ok_next {ps : List ByteArray} {p : ByteArray} {k : Nat} (h : ∀ j q, j < k → ps[j]? = some q → partOk q = true) (hp : ps[k]? = some p) (hk : partOk p = true) : ∀ j q, j < k + 1 → ps[j]? = some q → partOk q = true := by
  intro j q hj hq
  by_cases hjk : j < k
  · exact h j q hjk hq
  · obtain rfl : j = k := by omega
    rw [hp] at hq
    injection hq with hq
    rw [← hq]
    exact hk
set_option maxRecDepth 100000 in
set_option maxHeartbeats 4000000 in
theorem iTextBody (s : ByteArray) (w : World) (hs : s.size ≤ 1048576) (hLib : LibB w) : Calls Tryd.prog 13 #[.string s] w (BodyR s w) := by
  by_cases he : s = ⟨#[]⟩
  · subst he
    clear hLib
    go_enter Tryd.func13, Tryd.ntmps13
    go_wp2_with fail
    go_ret2
    exact ⟨none, 0, 0, rfl, rfl, World.ownsRow_nil w _ _ _, Below.refl _ _⟩
  · have hne : s.toList.isEmpty = false := by
      cases h : s.toList.isEmpty with
      | false => rfl
      | true =>
        exfalso
        apply he
        apply ba_eq
        rw [← ByteArray.toList_eq]
        simpa using h
    have HLib := hide hLib
    have HC := hide (split_c 59 s w hs hLib.2.2)
    have HE := hide he
    have HLn := hide (cutW_len 59 s)
    have hs' : (s.size : Int) ≤ 1048576 := by omega
    have HPz := hide (fun p hp => cutW_piece 59 s p hp)
    obtain ⟨ps, hps⟩ : ∃ ps, cutW 59 s = ps := ⟨_, rfl⟩
    rw [hps] at HC HLn HPz
    have HP := hide hps
    have HN0 := hide (show 0 < ps.length by rw [← hps]; exact List.length_pos_iff.2 (cutW_ne 59 s))
    obtain ⟨n, hn⟩ : ∃ n, ps.length = n := ⟨_, rfl⟩
    rw [hn] at HC HLn HN0
    have hnb : (n : Int) ≤ 1048577 := by have := HLn.out; omega
    have HL := hide hn
    clear he hs hps hn hLib
    go_enter Tryd.func13, Tryd.ntmps13
    go_wp2_with fail
    refine HC.out.mono ?_
    rintro e w1 ⟨A1, c1, rfl, ho, hb⟩
    have HO1 := hide ho.rd
    have HOA := hide ho
    have HB1 := hide hb
    clear ho hb HC
    go_wp2_with fail
    have hA1 := hide (show blk none ≠ blk A1 by
      obtain ⟨g, hg, _⟩ := HOA.out.form HN0.out
      rw [hg]
      exact fun e => by cases e)
    obtain ⟨L, hL⟩ : ∃ L, ps.map insOf = L := ⟨_, rfl⟩
    have HLL := hide hL
    go_loopw [4, 14] (fun o i wr => ∃ (k : Nat) (B : Option Addr) (cb : Nat), i = .int .i64 k ∧ o = .slice B k cb ∧ k ≤ n ∧ Hid (LS w L ps A1 n B k cb wr) ∧ Hid (∀ j q, j < k → ps[j]? = some q → partOk q = true)) (fun _ i _ => n - (intOf i).toNat)
    case atStart =>
      exact ⟨0, none, 0, rfl, rfl, Nat.zero_le _, hide ⟨Ow.base_le (World.ownsRow_nil w1 _ _ _) HB1.out.size, HO1.out, hA1.out, fun g hg => (HOA.out.blk_lt g hg).2, HB1.out⟩, hide (fun j q hj => by omega)⟩
    case round =>
      obtain ⟨k, B, cb, rfl, rfl, hk, HS, HO⟩ := hrel
      by_cases hlt : k < n
      · obtain ⟨b, off, hA1e, p, hp, hcell, hblt⟩ := get_str HS.out.rd k hlt (fun _ _ => rfl)
        subst hA1e
        have hi0 : (0 : Int) ≤ k := by omega
        have hi1 : (k : Int) < n := by omega
        have hpz := HPz.out p (List.mem_of_getElem? hp)
        have HC2 := hide (fun w => split_c 32 p w (by omega))
        obtain ⟨ws, hws⟩ : ∃ ws, cutW 32 p = ws := ⟨_, rfl⟩
        have hw0 : 0 < ws.length := by rw [← hws]; exact List.length_pos_iff.2 (cutW_ne 32 p)
        have hwz : ∀ x ∈ ws, (x.size : Int) ≤ 1048576 := fun x hx => by have := cutW_piece 32 p x (by rw [hws]; exact hx); omega
        have HWZ := hide hwz
        have HPk := hide hp
        have HLk0 := hide (show L[k]? = some (insOf p) by rw [← HLL.out, List.getElem?_map, hp]; rfl)
        have HI := hide (show insOf p = (nameOp (ws.getD 0 ⟨#[]⟩), (if 1 < ws.length then tnum (ws.getD 1 ⟨#[]⟩) else 0), (if 2 < ws.length then tnum (ws.getD 2 ⟨#[]⟩) else 0)) by rw [← hws]; rfl)
        rw [hws] at HC2
        obtain ⟨m, hm⟩ : ∃ m, ws.length = m := ⟨_, rfl⟩
        have HM := hide hm
        rw [hm] at HC2 hw0 HI
        clear hp hpz hws hwz hm
        go_wp2_with fail
        refine (HC2.out _ (libB_bel HLib.out HS.out.bel).2.2).mono ?_
        clear HC2
        rintro e w2 ⟨A2, c2, rfl, ho2, hb2⟩
        have HR2 := hide ho2.rd
        have HS2 := hide (HS.out.step hb2)
        clear ho2 hb2 hcell
        obtain ⟨b2, off2, hA2e, x0, hx0, hc0, _⟩ := get_str HR2.out 0 hw0 (fun _ _ => rfl)
        subst hA2e
        have hx0' : ws.getD 0 ⟨#[]⟩ = x0 := by simp [List.getD, hx0]
        rw [hx0'] at HI
        have hm0 : (0 : Int) < m := by omega
        simp only [Nat.add_zero] at hc0
        clear hx0 hx0'
        go_wp2_with fail
        refine (iNameOp x0 w2 (libB_bel HLib.out HS2.out.bel).1).mono ?_
        rintro e w3 ⟨rfl, hb3⟩
        have HS3 := hide (HS2.out.step hb3)
        have HR3 := hide (HR2.out.bel hb3)
        clear hb3 HR2 HS2 hc0
        obtain ⟨op, hop⟩ : ∃ op, nameOp x0 = op := ⟨_, rfl⟩
        rw [hop] at HI ⊢
        clear hop
        have HSa := hide (HS3.out.step ((Below.refl _ _).alloc (Nat.le_refl _) (.cells #[.int .i64 op, .int .i64 0, .int .i64 0] 61)))
        by_cases h1 : (1 : Int) < m
        · obtain ⟨x1, hx1⟩ : ∃ x1, ws.getD 1 ⟨#[]⟩ = x1 := ⟨_, rfl⟩
          have hz1 : (x1.size : Int) ≤ 1048576 := by
            apply HWZ.out x1
            rw [← hx1]
            simp only [List.getD]
            rw [List.getElem?_eq_getElem (show 1 < ws.length by have := HM.out; omega)]
            exact List.getElem_mem _
          have hV := V3.new w3 op 0 0
          have hs1 := str_at HR3.out (show 1 < m by omega) HM.out hV.bel
          rw [hx1] at hs1 HI
          have HT := hide (iTextNum x1 (w3.alloc (.cells #[.int .i64 op, .int .i64 0, .int .i64 0] 61)) (by omega) (libB_bel HLib.out HSa.out.bel).2.1)
          have HV := hide hV
          clear hV hx1 hz1
          go_wp2_with fail
          refine HT.out.mono ?_
          clear HT hs1
          rintro e w5 ⟨htn, hb5⟩
          obtain ⟨ok1, rfl⟩ := tn_val htn
          obtain ⟨y1, hy1⟩ : ∃ y1, tnum x1 = y1 := ⟨_, rfl⟩
          rw [hy1] at HI ⊢
          have hV5 := HV.out.call hb5
          have v0 := hV5.c0
          have v1 := hV5.c1
          have v2 := hV5.c2
          have g1 := hV5.f1
          have HV5 := hide hV5
          have HS5 := hide (HSa.out.step hb5)
          clear hV5 htn hb5 hy1 HV HSa
          by_cases h2 : (2 : Int) < m
          · have hm3 : ¬ m = 0 := by omega
            obtain ⟨x2, hx2⟩ : ∃ x2, ws.getD 2 ⟨#[]⟩ = x2 := ⟨_, rfl⟩
            have hz2 : (x2.size : Int) ≤ 1048576 := by
              apply HWZ.out x2
              rw [← hx2]
              simp only [List.getD]
              rw [List.getElem?_eq_getElem (show 2 < ws.length by have := HM.out; omega)]
              exact List.getElem_mem _
            have hV6 := HV5.out.set1 y1
            have hs2 := str_at HR3.out (show 2 < m by omega) HM.out hV6.bel
            rw [hx2] at hs2 HI
            have HT := hide (iTextNum x2 (w5.setCell ⟨w3.heap.size, 1, none⟩ (.int .i64 y1)) (by omega) (libB_bel HLib.out (HS3.out.step hV6.bel).bel).2.1)
            have HV6 := hide hV6
            clear hV6 hx2 hz2 hm3
            go_wp2_with fail
            refine HT.out.mono ?_
            clear HT hs2 v0 v1 v2 g1
            rintro e w7 ⟨htn, hb7⟩
            obtain ⟨ok2, rfl⟩ := tn_val htn
            obtain ⟨y2, hy2⟩ : ∃ y2, tnum x2 = y2 := ⟨_, rfl⟩
            rw [hy2] at HI ⊢
            have hV7 := HV6.out.call hb7
            have v0 := hV7.c0
            have v1 := hV7.c1
            have v2 := hV7.c2
            have g2 := hV7.f2
            have hx := HI.out
            rw [if_pos (show 1 < m by omega), if_pos (show 2 < m by omega)] at hx
            have HLk := hide (show L[k]? = some (op, y1, y2) by rw [HLk0.out, hx])
            have HK := hide (part_val p _ hx)
            have HV := hide (hV7.set2 y2)
            have HF := hide (HS3.out.step HV.out.bel)
            clear hV7 htn hb7 hy2 HV6 HS5 HV5 hx
            obtain ⟨q, hq⟩ : ∃ q, insOk (op, y1, y2) = q := ⟨_, rfl⟩
            have HOk := hide (fun w => iInsOk op y1 y2 w)
            rw [hq] at HOk HK
            clear hq
            have u0 := HV.out.c0
            have u1 := HV.out.c1
            have u2 := HV.out.c2
            cases q
            · have HBP := hide (show bodyP s = ([], false) by unfold bodyP; rw [if_neg HE.out, HP.out, all_no HPk.out (by rw [HK.out]; rfl)]; rfl)
              go_wp2_with fail
              refine (HOk.out _).mono ?_
              rintro e w8 ⟨rfl, hb8⟩
              have HB8 := hide (bel_step HF.out.bel hb8 HF.out.bel.size)
              clear hb8 u0 u1 u2
              go_wp2_with fail
              go_ret2
              refine ⟨none, 0, 0, by rw [HBP.out]; rfl, by rw [HBP.out]; rfl, ?_, HB8.out⟩
              rw [HBP.out]
              exact Ow.base_le (World.ownsRow_nil w8 _ _ _) HB8.out.size
            · have HX := hide (fun w h1 h2 => insText_c op y1 y2 w h1 h2)
              obtain ⟨F, hF⟩ : ∃ F, txt (op, y1, y2) = F := ⟨_, rfl⟩
              rw [hF] at HX HK
              clear hF
              go_wp2_with fail
              refine (HOk.out _).mono ?_
              rintro e w8 ⟨rfl, hb8⟩
              have HV8 := hide (HV.out.call hb8)
              have HF8 := hide (HF.out.step hb8)
              clear hb8 u0 u1 u2 HF HV HOk
              have u0 := HV8.out.c0
              have u1 := HV8.out.c1
              have u2 := HV8.out.c2
              go_wp2_with fail
              refine (HX.out _ (libB_bel HLib.out HF8.out.bel).1 (libB_bel HLib.out HF8.out.bel).2.1.1).mono ?_
              rintro e w9 ⟨rfl, hb9⟩
              have HV9 := hide (HV8.out.call hb9)
              have HF9 := hide (HF8.out.step hb9)
              clear hb9 u0 u1 u2 HF8 HV8 HX
              have hT := txt_test F p
              by_cases hFp : F = p
              · rw [decide_eq_true hFp] at hT
                have HO9 := hide (ok_next HO.out HPk.out (by rw [HK.out, decide_eq_true hFp]; rfl))
                clear hFp
                have u0 := HV9.out.c0
                have u1 := HV9.out.c1
                have u2 := HV9.out.c2
                go_wp2_with (at_builtin; refine app1x rfl _ _ rfl rfl rfl (by simp) E3 HF9.out.own rfl (one3 _ _ _) (by omega) HF9.out.bel.size ?_; intro B4 d4 w4 ho4 hg4 hl4)
                refine ⟨⟨k + 1, B4, d4, by go_num, rfl, by omega, hide (HF9.out.next ho4 hg4 hl4 HLk.out), HO9⟩, ?_⟩
                simp [intOf]
                omega
              · rw [decide_eq_false hFp] at hT
                have HBP := hide (show bodyP s = ([], false) by unfold bodyP; rw [if_neg HE.out, HP.out, all_no HPk.out (by rw [HK.out, decide_eq_false hFp]; rfl)]; rfl)
                clear hFp
                go_wp2_with fail
                go_ret2
                refine ⟨none, 0, 0, by rw [HBP.out]; rfl, by rw [HBP.out]; rfl, ?_, HF9.out.bel⟩
                rw [HBP.out]
                exact Ow.base_le (World.ownsRow_nil w9 _ _ _) HF9.out.bel.size
          · have hm1 : m = 2 := by omega
            subst hm1
            have hx := HI.out
            rw [if_pos (show 1 < 2 by omega), if_neg (show ¬ 2 < 2 by omega)] at hx
            have HLk := hide (show L[k]? = some (op, y1, 0) by rw [HLk0.out, hx])
            have HK := hide (part_val p _ hx)
            have HV := hide (HV5.out.set1 y1)
            have HF := hide (HS3.out.step HV.out.bel)
            clear HS5 HV5 hx
            obtain ⟨q, hq⟩ : ∃ q, insOk (op, y1, 0) = q := ⟨_, rfl⟩
            have HOk := hide (fun w => iInsOk op y1 0 w)
            rw [hq] at HOk HK
            clear hq
            have u0 := HV.out.c0
            have u1 := HV.out.c1
            have u2 := HV.out.c2
            cases q
            · have HBP := hide (show bodyP s = ([], false) by unfold bodyP; rw [if_neg HE.out, HP.out, all_no HPk.out (by rw [HK.out]; rfl)]; rfl)
              go_wp2_with fail
              refine (HOk.out _).mono ?_
              rintro e w8 ⟨rfl, hb8⟩
              have HB8 := hide (bel_step HF.out.bel hb8 HF.out.bel.size)
              clear hb8 u0 u1 u2
              go_wp2_with fail
              go_ret2
              refine ⟨none, 0, 0, by rw [HBP.out]; rfl, by rw [HBP.out]; rfl, ?_, HB8.out⟩
              rw [HBP.out]
              exact Ow.base_le (World.ownsRow_nil w8 _ _ _) HB8.out.size
            · have HX := hide (fun w h1 h2 => insText_c op y1 0 w h1 h2)
              obtain ⟨F, hF⟩ : ∃ F, txt (op, y1, 0) = F := ⟨_, rfl⟩
              rw [hF] at HX HK
              clear hF
              go_wp2_with fail
              refine (HOk.out _).mono ?_
              rintro e w8 ⟨rfl, hb8⟩
              have HV8 := hide (HV.out.call hb8)
              have HF8 := hide (HF.out.step hb8)
              clear hb8 u0 u1 u2 HF HV HOk
              have u0 := HV8.out.c0
              have u1 := HV8.out.c1
              have u2 := HV8.out.c2
              go_wp2_with fail
              refine (HX.out _ (libB_bel HLib.out HF8.out.bel).1 (libB_bel HLib.out HF8.out.bel).2.1.1).mono ?_
              rintro e w9 ⟨rfl, hb9⟩
              have HV9 := hide (HV8.out.call hb9)
              have HF9 := hide (HF8.out.step hb9)
              clear hb9 u0 u1 u2 HF8 HV8 HX
              have hT := txt_test F p
              by_cases hFp : F = p
              · rw [decide_eq_true hFp] at hT
                have HO9 := hide (ok_next HO.out HPk.out (by rw [HK.out, decide_eq_true hFp]; rfl))
                clear hFp
                have u0 := HV9.out.c0
                have u1 := HV9.out.c1
                have u2 := HV9.out.c2
                go_wp2_with (at_builtin; refine app1x rfl _ _ rfl rfl rfl (by simp) E3 HF9.out.own rfl (one3 _ _ _) (by omega) HF9.out.bel.size ?_; intro B4 d4 w4 ho4 hg4 hl4)
                refine ⟨⟨k + 1, B4, d4, by go_num, rfl, by omega, hide (HF9.out.next ho4 hg4 hl4 HLk.out), HO9⟩, ?_⟩
                simp [intOf]
                omega
              · rw [decide_eq_false hFp] at hT
                have HBP := hide (show bodyP s = ([], false) by unfold bodyP; rw [if_neg HE.out, HP.out, all_no HPk.out (by rw [HK.out, decide_eq_false hFp]; rfl)]; rfl)
                clear hFp
                go_wp2_with fail
                go_ret2
                refine ⟨none, 0, 0, by rw [HBP.out]; rfl, by rw [HBP.out]; rfl, ?_, HF9.out.bel⟩
                rw [HBP.out]
                exact Ow.base_le (World.ownsRow_nil w9 _ _ _) HF9.out.bel.size
        · have hm1 : m = 1 := by omega
          subst hm1
          have hx := HI.out
          rw [if_neg (show ¬ 1 < 1 by omega), if_neg (show ¬ 2 < 1 by omega)] at hx
          have HLk := hide (show L[k]? = some (op, 0, 0) by rw [HLk0.out, hx])
          have HK := hide (part_val p _ hx)
          have HV := hide (V3.new w3 op 0 0)
          have HF := HSa
          clear hx
          obtain ⟨q, hq⟩ : ∃ q, insOk (op, 0, 0) = q := ⟨_, rfl⟩
          have HOk := hide (fun w => iInsOk op 0 0 w)
          rw [hq] at HOk HK
          clear hq
          have u0 := HV.out.c0
          have u1 := HV.out.c1
          have u2 := HV.out.c2
          cases q
          · have HBP := hide (show bodyP s = ([], false) by unfold bodyP; rw [if_neg HE.out, HP.out, all_no HPk.out (by rw [HK.out]; rfl)]; rfl)
            go_wp2_with fail
            refine (HOk.out _).mono ?_
            rintro e w8 ⟨rfl, hb8⟩
            have HB8 := hide (bel_step HF.out.bel hb8 HF.out.bel.size)
            clear hb8 u0 u1 u2
            go_wp2_with fail
            go_ret2
            refine ⟨none, 0, 0, by rw [HBP.out]; rfl, by rw [HBP.out]; rfl, ?_, HB8.out⟩
            rw [HBP.out]
            exact Ow.base_le (World.ownsRow_nil w8 _ _ _) HB8.out.size
          · have HX := hide (fun w h1 h2 => insText_c op 0 0 w h1 h2)
            obtain ⟨F, hF⟩ : ∃ F, txt (op, 0, 0) = F := ⟨_, rfl⟩
            rw [hF] at HX HK
            clear hF
            go_wp2_with fail
            refine (HOk.out _).mono ?_
            rintro e w8 ⟨rfl, hb8⟩
            have HV8 := hide (HV.out.call hb8)
            have HF8 := hide (HF.out.step hb8)
            clear hb8 u0 u1 u2 HF HV HOk
            have u0 := HV8.out.c0
            have u1 := HV8.out.c1
            have u2 := HV8.out.c2
            go_wp2_with fail
            refine (HX.out _ (libB_bel HLib.out HF8.out.bel).1 (libB_bel HLib.out HF8.out.bel).2.1.1).mono ?_
            rintro e w9 ⟨rfl, hb9⟩
            have HV9 := hide (HV8.out.call hb9)
            have HF9 := hide (HF8.out.step hb9)
            clear hb9 u0 u1 u2 HF8 HV8 HX
            have hT := txt_test F p
            by_cases hFp : F = p
            · rw [decide_eq_true hFp] at hT
              have HO9 := hide (ok_next HO.out HPk.out (by rw [HK.out, decide_eq_true hFp]; rfl))
              clear hFp
              have u0 := HV9.out.c0
              have u1 := HV9.out.c1
              have u2 := HV9.out.c2
              go_wp2_with (at_builtin; refine app1x rfl _ _ rfl rfl rfl (by simp) E3 HF9.out.own rfl (one3 _ _ _) (by omega) HF9.out.bel.size ?_; intro B4 d4 w4 ho4 hg4 hl4)
              refine ⟨⟨k + 1, B4, d4, by go_num, rfl, by omega, hide (HF9.out.next ho4 hg4 hl4 HLk.out), HO9⟩, ?_⟩
              simp [intOf]
              omega
            · rw [decide_eq_false hFp] at hT
              have HBP := hide (show bodyP s = ([], false) by unfold bodyP; rw [if_neg HE.out, HP.out, all_no HPk.out (by rw [HK.out, decide_eq_false hFp]; rfl)]; rfl)
              clear hFp
              go_wp2_with fail
              go_ret2
              refine ⟨none, 0, 0, by rw [HBP.out]; rfl, by rw [HBP.out]; rfl, ?_, HF9.out.bel⟩
              rw [HBP.out]
              exact Ow.base_le (World.ownsRow_nil w9 _ _ _) HF9.out.bel.size
      · obtain rfl : k = n := by omega
        have hkn : decide ((k : Int) < k) = false := decide_eq_false (by omega)
        have HLL2 := hide (show L.length = k by rw [← HLL.out, List.length_map, HL.out])
        have HAll := hide (show ps.all partOk = true by
          rw [List.all_eq_true]
          intro p hp
          obtain ⟨j, hj, hpj⟩ := List.getElem_of_mem hp
          exact HO.out j p (by have := HL.out; omega) (by rw [List.getElem?_eq_getElem hj, hpj]))
        have HBP := hide (show bodyP s = (L, true) by unfold bodyP; rw [if_neg HE.out, HP.out, HAll.out, HLL.out]; rfl)
        have HOL := hide (show Ow wr w.heap.size 61 3 B k cb (insC L) by have := HS.out.own; rwa [List.take_of_length_le (by have := HLL2.out; omega)] at this)
        go_wp2_with fail
        go_ret2
        refine ⟨B, k, cb, by rw [HBP.out]; exact HLL2.out, by rw [HBP.out]; rfl, ?_, HS.out.bel⟩
        rw [HBP.out]
        exact HOL.out
end Go.Proofs.YtiinkfejdnfonaaDoor.Cut
