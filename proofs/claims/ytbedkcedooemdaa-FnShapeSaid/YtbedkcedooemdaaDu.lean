/- Bodies of a right shape, drawn: the walk. -/
import Derived.Test.YtbedkcedooemdaaDt
namespace Go.Proofs.Ytbedkcedooemdaa.Draw
open Go.RowKit Go.Proofs.Ytbedkcedooemdaa.Num Go.Proofs.Ytbedkcedooemdaa.NumC Go.Proofs.Ytbedkcedooemdaa.Mem Go.Proofs.Ytbedkcedooemdaa.Shape Go.Proofs.Ytbedkcedooemdaa.Body Go.Proofs.Ytbedkcedooemdaa.Ops
set_option linter.unusedVariables false
set_option maxRecDepth 100000 in
set_option maxHeartbeats 8000000 in
theorem draw_step (g : Nat) (A : Option Addr) (n c : Nat) (bs : List Int) (deep : Int) (m : Nat) (hd0 : 0 ≤ deep) (hd1 : deep ≤ 3) (hm : m ≤ 1000)
    (ih : deep < 3 → ∀ w, Cur w g A n c bs → Calls Try.prog 14 #[.pointer (some ⟨g, 0, none⟩), .int .i64 (deep + 1)] w (BodyG m g A n c bs w)) (w : World) (hc : Cur w g A n c bs) :
    Calls Try.prog 14 #[.pointer (some ⟨g, 0, none⟩), .int .i64 deep] w (BodyG (4 * (2 * m + 3)) g A n c bs w) := by
  have hgl := cur_lt hc
  have HM := hide hm
  have H0 := hide (show ST w.heap.size 0 g A n c bs w (some ⟨w.heap.size, 0, none⟩) 0 [] (w.alloc (.cells #[] 27)) from
    ⟨Nat.zero_le _, World.ownsRow_made w #[] 0 (Nat.le_refl _) (Nat.zero_le _) (by simp), cur_alloc hc _, gr_alloc (World.grownBy.refl w (some g)) _, by simp, hgl, Nat.le_refl _⟩)
  have IH := hide ih
  clear hc ih hm
  go_enter Try.func14, Try.ntmps14
  go_wp2_with fail
  refine (below_g g A n c bs _ _ H0.out.cur (World.grownBy.refl _ _) _ (by omega)).mono ?_
  rintro e w1 ⟨k, rfl, ⟨p1, q1⟩, hc1, hb1⟩
  have H1 := hide (H0.out.draw hc1 hb1)
  clear hc1 hb1 H0
  obtain ⟨k0, rfl⟩ : ∃ k0 : Nat, k = k0 := ⟨k.toNat, by omega⟩
  go_wp2_with fail
  go_loopw [5, 6] (fun s i wr => ∃ (j : Nat) (B : Option Addr) (d : Nat) (l : List Ins3), j ≤ 4 ∧ i = .int .i64 j ∧ s = .slice B l.length d ∧ Hid (ST w.heap.size ((4 - j) * (2 * m + 3)) g A n c bs w B d l wr)) (fun _ i _ => (intOf i).toNat)
  case atStart => exact ⟨k0, _, _, [], by omega, rfl, rfl, hide (H1.out.up (Nat.zero_le _))⟩
  case round =>
    clear p1 q1 H1
    obtain ⟨j, B, d, l, hj, rfl, rfl, HS⟩ := hrel
    by_cases h0 : j = 0
    · subst h0
      go_wp2_with fail
      go_ret
      exact ⟨B, d, l, rfl, HS.out.le, HS.out.own, HS.out.cur, HS.out.gr⟩
    · have hj1 : (0 : Int) < j := by omega
      go_wp2_with fail
      refine (below_g g A n c bs _ _ HS.out.cur (World.grownBy.refl _ _) _ (by omega)).mono ?_
      rintro e w2 ⟨k, rfl, ⟨p2, q2⟩, hc2, hg2⟩
      have HS2 := hide (HS.out.draw hc2 hg2)
      clear hc2 hg2 HS
      have hlb : (l.length : Int) ≤ 10000 := by
        have h1 := HS2.out.le
        have h2 : (4 - j) * (2 * m + 3) ≤ 4 * 2003 := Nat.mul_le_mul (by omega) (by have := HM.out; omega)
        omega
      have HJ := hide (show (4 - j) * (2 * m + 3) + (2 * m + 3) = (4 - (j - 1)) * (2 * m + 3) by
        obtain ⟨q, rfl⟩ : ∃ q, j = q + 1 := ⟨j - 1, by omega⟩
        obtain ⟨r, hr⟩ : ∃ r, 4 - (q + 1) = r := ⟨_, rfl⟩
        have h2 : 4 - (q + 1 - 1) = r + 1 := by omega
        rw [hr, h2]
        exact (Nat.succ_mul r (2 * m + 3)).symm)
      have HJ0 := hide h0
      clear h0
      by_cases hk : k < 2 ∧ deep < 3
      · obtain ⟨hk1, hd⟩ := hk
        have hk1b : decide (k < 2) = true := by simpa using hk1
        have hdb : decide (deep < 3) = true := by simpa using hd
        have IH2 := hide (IH.out hd)
        go_wp2_with fail
        refine (pick3a HS2.out).mono ?_
        rintro e w6 ⟨i, op, rfl, hi3, hi0, hop, hcell, hs6⟩
        have HS6 := hide hs6
        clear hs6
        have HOP := hide hop
        clear hop
        go_wp2_with fail
        clear hcell HS2 hi3 hi0
        refine (below_g g A n c bs _ _ HS6.out.cur (World.grownBy.refl _ _) _ (by omega)).mono ?_
        rintro e w7 ⟨x, rfl, ⟨p7, q7⟩, hc7, hg7⟩
        have HS7 := hide (HS6.out.draw hc7 hg7)
        clear hc7 hg7 HS6 p7 q7
        go_wp2_with (at_builtin; refine app1 rfl _ _ rfl rfl rfl E3 HS7.out.own rfl (one3d _ _ _) (by omega) HS7.out.bs ?_; intro B8 d8 w8 ho8 hg8 hl8)
        have HS8 := hide (HS7.out.app (m := [(op, x, 0)]) (lim' := (4 - j) * (2 * m + 3) + 1) (by have := HS7.out.le; simp; omega) rfl (by rw [← ins_c1]; exact ho8) hg8)
        clear ho8 hg8 hl8 HS7
        refine (IH2.out _ HS8.out.cur).mono ?_
        rintro e w9 ⟨B9, d9, l9, rfl, hl9, ho9, hc9, hg9⟩
        have HS9 := hide (HS8.out.draw hc9 hg9)
        have HR9 := hide ho9.rd
        have HL9 := hide hl9
        clear hl9 ho9 hc9 hg9 HS8
        have hb9 : (l9.length : Int) ≤ 1000 := by have := HL9.out; have := HM.out; omega
        have HSa0 : Hid (Ow w9 w.heap.size 27 3 B8 (l.length + 1) d8 (insC (l ++ [(op, x, 0)]))) := hide (by have h := HS9.out.own; rw [List.length_append] at h; exact h)
        go_upto_region 9 with (at_builtin; refine app rfl _ _ rfl rfl rfl E3 HSa0.out HR9.out (ins_one _) (by omega) HS9.out.bs ?_; intro Ba da wa hoa hga hla)
        have HSa := hide (HS9.out.app (m := l9) (lim' := (4 - j) * (2 * m + 3) + 1 + m) (by have := HS9.out.le; have := HL9.out; omega) (by simp) hoa hga)
        clear hoa hga hla HS9 HSa0 HR9
        obtain ⟨La, hLa⟩ : ∃ La, l ++ [(op, x, 0)] ++ l9 = La := ⟨_, rfl⟩
        obtain ⟨Na, hNa⟩ : ∃ Na, l.length + 1 + l9.length = Na := ⟨_, rfl⟩
        rw [hLa] at HSa
        have hNl : La.length = Na := by rw [← hLa, ← hNa]; simp; omega
        rw [hNa]
        clear hLa hNa HL9 hb9 hlb
        subst hNl
        have hlb : (La.length : Int) ≤ 12000 := by
          have h1 := HSa.out.le
          have h2 : (4 - j) * (2 * m + 3) ≤ 4 * 2003 := Nat.mul_le_mul (by omega) (by have := HM.out; omega)
          have := HM.out
          omega
        by_cases h4 : op = 4
        · subst h4
          go_wp2_with fail
          refine (below_g g A n c bs _ _ HSa.out.cur (World.grownBy.refl _ _) _ (by omega)).mono ?_
          rintro e wb ⟨y, rfl, ⟨pb, qb⟩, hcb, hgb⟩
          have HSb := hide (HSa.out.draw hcb hgb)
          clear hcb hgb HSa
          by_cases hy : y = 0
          · subst hy
            clear pb qb
            go_wp2_with (at_builtin; refine app1 rfl _ _ rfl rfl rfl E3 HSb.out.own rfl (one3d _ _ _) (by omega) HSb.out.bs ?_; intro Bc dc wc hoc hgc hlc)
            have HSc := hide (HSb.out.app (m := [(5, 0, 0)]) (lim' := (4 - j) * (2 * m + 3) + 2 + m) (by have := HSb.out.le; simp; omega) rfl (by rw [← ins_c1]; exact hoc) hgc)
            clear hoc hgc hlc HSb
            refine (IH2.out _ HSc.out.cur).mono ?_
            rintro e wd ⟨B9, d9, l9, rfl, hl9, ho9, hc9, hg9⟩
            have HSd := hide (HSc.out.draw hc9 hg9)
            have HR9 := hide ho9.rd
            have HL9 := hide hl9
            clear hl9 ho9 hc9 hg9 HSc
            have hb9 : (l9.length : Int) ≤ 1000 := by have := HL9.out; have := HM.out; omega
            have HSd0 : Hid (Ow wd w.heap.size 27 3 Bc (La.length + 1) dc (insC (La ++ [(5, 0, 0)]))) := hide (by have h := HSd.out.own; rw [List.length_append] at h; exact h)
            go_upto_region 11 with (at_builtin; refine app rfl _ _ rfl rfl rfl E3 HSd0.out HR9.out (ins_one _) (by omega) HSd.out.bs ?_; intro Be de we hoe hge hle)
            have HSe := hide (HSd.out.app (m := l9) (lim' := (4 - j) * (2 * m + 3) + 2 + m + m) (by have := HSd.out.le; have := HL9.out; omega) (by simp) hoe hge)
            clear hoe hge hle HSd HSd0 HR9
            obtain ⟨Le, hLe⟩ : ∃ Le, La ++ [(5, 0, 0)] ++ l9 = Le := ⟨_, rfl⟩
            obtain ⟨Ne, hNe⟩ : ∃ Ne, La.length + 1 + l9.length = Ne := ⟨_, rfl⟩
            rw [hLe] at HSe
            have hNl : Le.length = Ne := by rw [← hLe, ← hNe]; simp; omega
            rw [hNe]
            clear hLe hNe HL9 hb9 hlb
            subst hNl
            have hlb : (Le.length : Int) ≤ 12000 := by
              have h1 := HSe.out.le
              have h2 : (4 - j) * (2 * m + 3) ≤ 4 * 2003 := Nat.mul_le_mul (by omega) (by have := HM.out; omega)
              have := HM.out
              omega
            go_wp2_with (at_builtin; refine app1 rfl _ _ rfl rfl rfl E3 HSe.out.own rfl (one3d _ _ _) (by have := HSe.out.le; have := HJ.out; have := HM.out; omega) HSe.out.bs ?_; intro Bz dz wz hoz hgz hlz)
            have HSz := hide (HSe.out.app (m := [(11, 0, 0)]) (lim' := (4 - (j - 1)) * (2 * m + 3)) (by have := HSe.out.le; have := HJ.out; simp; omega) rfl (by rw [← ins_c1]; exact hoz) hgz)
            clear hoz hgz hlz HSe
            go_roundw
            case rel =>
              refine ⟨j - 1, Bz, dz, Le ++ [(11, 0, 0)], by omega, ?_, by simp, HSz⟩
              congr 1
              have := HJ0.out
              omega
            case measure =>
              have := HJ0.out
              simp [intOf]
              omega
          · have hyb : (y == 0) = false := by simpa using hy
            go_wp2_with (at_builtin; refine app1 rfl _ _ rfl rfl rfl E3 HSb.out.own rfl (one3d _ _ _) (by have := HSb.out.le; have := HJ.out; have := HM.out; omega) HSb.out.bs ?_; intro Bz dz wz hoz hgz hlz)
            have HSz := hide (HSb.out.app (m := [(11, 0, 0)]) (lim' := (4 - (j - 1)) * (2 * m + 3)) (by have := HSb.out.le; have := HJ.out; simp; omega) rfl (by rw [← ins_c1]; exact hoz) hgz)
            clear hoz hgz hlz HSb
            go_roundw
            case rel =>
              refine ⟨j - 1, Bz, dz, La ++ [(11, 0, 0)], by omega, ?_, by simp, HSz⟩
              congr 1
              have := HJ0.out
              omega
            case measure =>
              have := HJ0.out
              simp [intOf]
              omega
        · have h4b : (op == 4) = false := by simpa using h4
          go_wp2_with (at_builtin; refine app1 rfl _ _ rfl rfl rfl E3 HSa.out.own rfl (one3d _ _ _) (by have := HSa.out.le; have := HJ.out; have := HM.out; omega) HSa.out.bs ?_; intro Bz dz wz hoz hgz hlz)
          have HSz := hide (HSa.out.app (m := [(11, 0, 0)]) (lim' := (4 - (j - 1)) * (2 * m + 3)) (by have := HSa.out.le; have := HJ.out; simp; omega) rfl (by rw [← ins_c1]; exact hoz) hgz)
          clear hoz hgz hlz HSa
          go_roundw
          case rel =>
            refine ⟨j - 1, Bz, dz, La ++ [(11, 0, 0)], by omega, ?_, by simp, HSz⟩
            congr 1
            have := HJ0.out
            omega
          case measure =>
            have := HJ0.out
            simp [intOf]
            omega
      · have hcase : 2 ≤ k ∨ (k < 2 ∧ 3 ≤ deep) := by omega
        rcases hcase with h2 | ⟨h2, h3⟩
        · go_wp2_with fail
          refine (ins_g g A n c bs _ HS2.out.cur).mono ?_
          rintro e w3 ⟨op, a, b, rfl, hc3, hg3⟩
          have HS3 := hide ((HS2.out.draw hc3 hg3).alloc (.cells #[.int .i64 op, .int .i64 a, .int .i64 b] 27))
          clear hc3 hg3 HS2
          have HSB := hide (sbeg_c op (w3.alloc (.cells #[.int .i64 op, .int .i64 a, .int .i64 b] 27)))
          obtain ⟨bb, hbb⟩ : ∃ bb, isBeg op = bb := ⟨_, rfl⟩
          rw [hbb] at HSB
          clear hbb
          go_wp2_with fail
          refine HSB.out.mono ?_
          rintro e w' ⟨rfl, rfl⟩
          clear HSB
          cases bb
          · by_cases h5 : op = 5
            · subst h5
              go_wp2_with fail
              go_roundw
              case rel =>
                refine ⟨j - 1, B, d, l, by omega, ?_, by simp, hide (HS3.out.up (Nat.le_trans HS3.out.le (by have := HJ.out; omega)))⟩
                congr 1
                have := HJ0.out
                omega
              case measure =>
                have := HJ0.out
                simp [intOf]
                omega
            · by_cases h11 : op = 11
              · subst h11
                go_wp2_with fail
                go_roundw
                case rel =>
                  refine ⟨j - 1, B, d, l, by omega, ?_, by simp, hide (HS3.out.up (Nat.le_trans HS3.out.le (by have := HJ.out; omega)))⟩
                  congr 1
                  have := HJ0.out
                  omega
                case measure =>
                  have := HJ0.out
                  simp [intOf]
                  omega
              · have b5 : (op != 5) = true := by simpa using h5
                have b11 : (op != 11) = true := by simpa using h11
                go_wp2_with (at_builtin; refine app1x rfl _ _ rfl rfl rfl (by simp) E3 HS3.out.own rfl (one3d _ _ _) (by omega) HS3.out.bs ?_; intro B8 d8 w8 ho8 hg8 hl8)
                have HS8 := hide (HS3.out.app (m := [(op, a, b)]) (lim' := (4 - j) * (2 * m + 3) + 1) (by have := HS3.out.le; simp; omega) rfl (by rw [← ins_c1]; exact ho8) hg8)
                clear ho8 hg8 hl8 HS3
                go_roundw
                case rel =>
                  refine ⟨j - 1, B8, d8, l ++ [(op, a, b)], by omega, ?_, by simp, hide (HS8.out.up (Nat.le_trans HS8.out.le (by have := HJ.out; omega)))⟩
                  congr 1
                  have := HJ0.out
                  omega
                case measure =>
                  have := HJ0.out
                  simp [intOf]
                  omega
          · go_wp2_with fail
            go_roundw
            case rel =>
              refine ⟨j - 1, B, d, l, by omega, ?_, by simp, hide (HS3.out.up (Nat.le_trans HS3.out.le (by have := HJ.out; omega)))⟩
              congr 1
              have := HJ0.out
              omega
            case measure =>
              have := HJ0.out
              simp [intOf]
              omega
        · go_wp2_with fail
          refine (ins_g g A n c bs _ HS2.out.cur).mono ?_
          rintro e w3 ⟨op, a, b, rfl, hc3, hg3⟩
          have HS3 := hide ((HS2.out.draw hc3 hg3).alloc (.cells #[.int .i64 op, .int .i64 a, .int .i64 b] 27))
          clear hc3 hg3 HS2
          have HSB := hide (sbeg_c op (w3.alloc (.cells #[.int .i64 op, .int .i64 a, .int .i64 b] 27)))
          obtain ⟨bb, hbb⟩ : ∃ bb, isBeg op = bb := ⟨_, rfl⟩
          rw [hbb] at HSB
          clear hbb
          go_wp2_with fail
          refine HSB.out.mono ?_
          rintro e w' ⟨rfl, rfl⟩
          clear HSB
          cases bb
          · by_cases h5 : op = 5
            · subst h5
              go_wp2_with fail
              go_roundw
              case rel =>
                refine ⟨j - 1, B, d, l, by omega, ?_, by simp, hide (HS3.out.up (Nat.le_trans HS3.out.le (by have := HJ.out; omega)))⟩
                congr 1
                have := HJ0.out
                omega
              case measure =>
                have := HJ0.out
                simp [intOf]
                omega
            · by_cases h11 : op = 11
              · subst h11
                go_wp2_with fail
                go_roundw
                case rel =>
                  refine ⟨j - 1, B, d, l, by omega, ?_, by simp, hide (HS3.out.up (Nat.le_trans HS3.out.le (by have := HJ.out; omega)))⟩
                  congr 1
                  have := HJ0.out
                  omega
                case measure =>
                  have := HJ0.out
                  simp [intOf]
                  omega
              · have b5 : (op != 5) = true := by simpa using h5
                have b11 : (op != 11) = true := by simpa using h11
                go_wp2_with (at_builtin; refine app1x rfl _ _ rfl rfl rfl (by simp) E3 HS3.out.own rfl (one3d _ _ _) (by omega) HS3.out.bs ?_; intro B8 d8 w8 ho8 hg8 hl8)
                have HS8 := hide (HS3.out.app (m := [(op, a, b)]) (lim' := (4 - j) * (2 * m + 3) + 1) (by have := HS3.out.le; simp; omega) rfl (by rw [← ins_c1]; exact ho8) hg8)
                clear ho8 hg8 hl8 HS3
                go_roundw
                case rel =>
                  refine ⟨j - 1, B8, d8, l ++ [(op, a, b)], by omega, ?_, by simp, hide (HS8.out.up (Nat.le_trans HS8.out.le (by have := HJ.out; omega)))⟩
                  congr 1
                  have := HJ0.out
                  omega
                case measure =>
                  have := HJ0.out
                  simp [intOf]
                  omega
          · go_wp2_with fail
            go_roundw
            case rel =>
              refine ⟨j - 1, B, d, l, by omega, ?_, by simp, hide (HS3.out.up (Nat.le_trans HS3.out.le (by have := HJ.out; omega)))⟩
              congr 1
              have := HJ0.out
              omega
            case measure =>
              have := HJ0.out
              simp [intOf]
              omega
end Go.Proofs.Ytbedkcedooemdaa.Draw
