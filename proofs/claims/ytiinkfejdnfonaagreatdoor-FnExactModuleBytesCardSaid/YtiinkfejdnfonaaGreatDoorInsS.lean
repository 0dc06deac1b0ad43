/- Right instructions, in the reference: a contract. -/
import Derived.Test.YtiinkfejdnfonaaGreatDoorInsC
import Derived.Deep.RegionHeld
namespace Go.Proofs.YtiinkfejdnfonaaGreatDoor.Ops
open Go.RowKit Go.Proofs.YtiinkfejdnfonaaGreatDoor.Num Go.Proofs.YtiinkfejdnfonaaGreatDoor.NumC Go.Proofs.YtiinkfejdnfonaaGreatDoor.Mem Go.Proofs.YtiinkfejdnfonaaGreatDoor.Shape Go.Proofs.YtiinkfejdnfonaaGreatDoor.Body
set_option linter.unusedVariables false

theorem skind_b (op k : Int) (w : World) (h : Hid (kind op = k)) : Calls Tryz.prog 122 #[.int .i64 op] w fun e w' => e = .returned (.int .i64 k) ∧ w = w' :=
  (skind_c op w).mono fun _ _ ⟨he, hw⟩ => ⟨by rw [he, h.out], hw⟩
theorem name_empty {op : Int} (h : known op = true) : (opName op).toList.isEmpty = false := by
  have := name_known h
  rw [ByteArray.toList_eq]
  simp only [List.isEmpty_eq_false_iff, ne_eq]
  intro e
  apply this
  rw [← ByteArray.size_data, ← Array.length_toList, e]
  rfl
set_option maxRecDepth 100000 in
set_option maxHeartbeats 4000000 in
theorem sInsOk (op a b : Int) (w : World) : Calls Tryz.prog 107 #[.agg #[.int .i64 op, .int .i64 a, .int .i64 b]] w fun e w' => e = .returned (.bool (insOk (op, a, b))) ∧ Below w.heap.size w w' := by
  obtain ⟨S, hS⟩ : ∃ S, opName op = S := ⟨_, rfl⟩
  have hsc := sOpName op
  rw [hS] at hsc
  have SC := hide hsc
  have V0 := var3_new w op a b 139
  clear hsc
  go_enter Tryz.func107, Tryz.ntmps107
  go_wp2_with fail
  generalize w.alloc (.cells #[.int .i64 op, .int .i64 a, .int .i64 b] 139) = W0 at V0 ⊢
  refine (SC.out W0).mono ?_
  rintro e w2 ⟨rfl, hb2⟩
  have V2 := var3_bel V0 hb2
  obtain ⟨c0, c1, c2, hb3⟩ := V2
  have V3 : Var3 w op a b w2 := ⟨c0, c1, c2, hb3⟩
  have HV := hide V3
  clear V3 hb3 hb2 V0 SC
  cases hk : known op
  · have HK := hide hk
    have hSe : S = ⟨#[]⟩ := by rw [← hS]; exact name_unknown hk
    subst hSe
    clear hk hS
    go_wp2_with fail
    go_ret
    exact ⟨by rw [ok_un HK.out]; rfl, HV.out.2.2.2⟩
  · have HK := hide hk
    have hSn : S.toList.isEmpty = false := by rw [← hS]; exact name_empty hk
    clear hk hS
    have hkb := kind_bd op
    obtain ⟨q, hq⟩ : ∃ q, kind op = q := ⟨_, rfl⟩
    have HKD := hide hq
    rw [hq] at hkb
    clear hq
    rcases (by omega : q = 1 ∨ q = 2 ∨ q = 3 ∨ q = 4 ∨ q = 0) with rfl | rfl | rfl | rfl | rfl
    · by_cases h0 : a = 0
      · subst h0
        have HE := hide (ok1 (a := 0) (b := b) HK.out HKD.out (by omega) (by omega))
        go_wp2_with fail
        refine (skind_b _ _ _ HKD).mono ?_
        rintro e w' ⟨rfl, rfl⟩
        go_wp2_with fail
        go_ret
        exact ⟨by rw [HE.out]; rfl, HV.out.2.2.2⟩
      · by_cases h1 : a = 1
        · subst h1
          have HE := hide (ok1 (a := 1) (b := b) HK.out HKD.out (by omega) (by omega))
          go_wp2_with fail
          refine (skind_b _ _ _ HKD).mono ?_
          rintro e w' ⟨rfl, rfl⟩
          go_wp2_with fail
          go_ret
          exact ⟨by rw [HE.out]; rfl, HV.out.2.2.2⟩
        · have HE := hide (ok1f (a := a) (b := b) HK.out HKD.out (by omega))
          have hb0 : (a == 0) = false := by simpa using h0
          have hb1 : (a == 1) = false := by simpa using h1
          go_wp2_with fail
          refine (skind_b _ _ _ HKD).mono ?_
          rintro e w' ⟨rfl, rfl⟩
          go_wp2_with fail
          go_ret
          exact ⟨by rw [HE.out]; rfl, HV.out.2.2.2⟩
    · by_cases h0 : 0 ≤ a
      · by_cases h1 : a ≤ 1000
        · have HE := hide (ok2 (b := b) HK.out HKD.out h0 h1)
          go_wp2_with fail
          refine (skind_b _ _ _ HKD).mono ?_
          rintro e w' ⟨rfl, rfl⟩
          go_wp2_with fail
          go_ret
          exact ⟨by rw [HE.out]; rfl, HV.out.2.2.2⟩
        · have h1' : 1000 < a := by omega
          have HE := hide (ok2f (b := b) HK.out HKD.out (.inr h1'))
          clear h1
          go_wp2_with fail
          refine (skind_b _ _ _ HKD).mono ?_
          rintro e w' ⟨rfl, rfl⟩
          go_wp2_with fail
          go_ret
          exact ⟨by rw [HE.out]; rfl, HV.out.2.2.2⟩
      · have h0' : a < 0 := by omega
        have HE := hide (ok2f (b := b) HK.out HKD.out (.inl h0'))
        clear h0
        go_wp2_with fail
        refine (skind_b _ _ _ HKD).mono ?_
        rintro e w' ⟨rfl, rfl⟩
        go_wp2_with fail
        go_ret
        exact ⟨by rw [HE.out]; rfl, HV.out.2.2.2⟩
    · by_cases h0 : 0 ≤ a
      · by_cases h1 : a ≤ 2147483647
        · by_cases h2 : 0 ≤ b
          · by_cases h3 : b ≤ 2
            · have HE := hide (ok3 HK.out HKD.out h0 h1 h2 h3)
              go_wp2_with fail
              refine (skind_b _ _ _ HKD).mono ?_
              rintro e w' ⟨rfl, rfl⟩
              go_wp2_with fail
              go_ret
              exact ⟨by rw [HE.out]; rfl, HV.out.2.2.2⟩
            · have h3' : 2 < b := by omega
              have hd : decide (b ≤ 2) = false := decide_eq_false h3
              have HE := hide (ok3f (a := a) HK.out HKD.out (.inr (.inr h3')))
              clear h3
              go_wp2_with fail
              refine (skind_b _ _ _ HKD).mono ?_
              rintro e w' ⟨rfl, rfl⟩
              go_wp2_with fail
              go_ret
              exact ⟨by rw [HE.out]; rfl, HV.out.2.2.2⟩
          · have h2' : b < 0 := by omega
            have HE := hide (ok3f (a := a) HK.out HKD.out (.inr (.inl h2')))
            clear h2
            go_wp2_with fail
            refine (skind_b _ _ _ HKD).mono ?_
            rintro e w' ⟨rfl, rfl⟩
            go_wp2_with fail
            go_ret
            exact ⟨by rw [HE.out]; rfl, HV.out.2.2.2⟩
        · have h1' : 2147483647 < a := by omega
          have HE := hide (ok3f (b := b) HK.out HKD.out (.inl (.inr h1')))
          clear h1
          go_wp2_with fail
          refine (skind_b _ _ _ HKD).mono ?_
          rintro e w' ⟨rfl, rfl⟩
          go_wp2_with fail
          go_ret
          exact ⟨by rw [HE.out]; rfl, HV.out.2.2.2⟩
      · have h0' : a < 0 := by omega
        have HE := hide (ok3f (b := b) HK.out HKD.out (.inl (.inl h0')))
        clear h0
        go_wp2_with fail
        refine (skind_b _ _ _ HKD).mono ?_
        rintro e w' ⟨rfl, rfl⟩
        go_wp2_with fail
        go_ret
        exact ⟨by rw [HE.out]; rfl, HV.out.2.2.2⟩
    · obtain ⟨v, hv⟩ : ∃ v, wrap32 a = v := ⟨_, rfl⟩
      have WC := hide (fun w => sWrap a w)
      rw [hv] at WC
      by_cases h : -2147483648 ≤ a ∧ a ≤ 2147483647
      · have hva : (v == a) = true := by
          simp only [beq_iff_eq]
          rw [← hv]
          unfold wrap32
          omega
        have HE := hide (ok4 (b := b) HK.out HKD.out h.1 h.2)
        clear h hv
        go_wp2_with fail
        refine (skind_b _ _ _ HKD).mono ?_
        rintro e w' ⟨rfl, rfl⟩
        go_wp2_with fail
        have VD : Var3 w op a b w2.drew := var3_drewN HV.out 1
        go_region_held (fun W => W.cell? ⟨w.heap.size, 1, none⟩ = some (.int .i64 a) ∧ W.cell? ⟨w.heap.size, 2, none⟩ = some (.int .i64 b) ∧ Var3 w op a b W) (first | exact ⟨VD.2.1, VD.2.2.1, VD⟩ | assumption) ((go_at_call 75; refine (WC.out _).mono ?_; rintro e w' ⟨rfl, rfl⟩))
        all_goals go_wp2_with fail
        all_goals go_ret
        all_goals exact ⟨by rw [HE.out]; rfl, VD.2.2.2⟩
      · have hva : (v == a) = false := by
          simp only [beq_eq_false_iff_ne, ne_eq]
          rw [← hv]
          unfold wrap32
          omega
        have HE := hide (ok4f (a := a) (b := b) HK.out HKD.out (by omega))
        clear h hv
        go_wp2_with fail
        refine (skind_b _ _ _ HKD).mono ?_
        rintro e w' ⟨rfl, rfl⟩
        go_wp2_with fail
        go_quiet ((go_at_call 75; refine (WC.out _).mono ?_; rintro e w' ⟨rfl, rfl⟩; exact ⟨rfl, _, rfl⟩))
        go_wp2_with fail
        go_ret
        exact ⟨by rw [HE.out]; rfl, bel_drewN HV.out.2.2.2 _⟩
    · by_cases h : a = 0
      · have HE := hide (ok0 (b := b) HK.out HKD.out h)
        subst h
        go_wp2_with fail
        refine (skind_b _ _ _ HKD).mono ?_
        rintro e w' ⟨rfl, rfl⟩
        go_wp2_with fail
        go_ret
        exact ⟨by rw [HE.out]; rfl, HV.out.2.2.2⟩
      · have HE := hide (ok0f (b := b) HK.out HKD.out h)
        have hab : (a == 0) = false := by simpa using h
        go_wp2_with fail
        refine (skind_b _ _ _ HKD).mono ?_
        rintro e w' ⟨rfl, rfl⟩
        go_wp2_with fail
        go_ret
        exact ⟨by rw [HE.out]; rfl, HV.out.2.2.2⟩
end Go.Proofs.YtiinkfejdnfonaaGreatDoor.Ops
