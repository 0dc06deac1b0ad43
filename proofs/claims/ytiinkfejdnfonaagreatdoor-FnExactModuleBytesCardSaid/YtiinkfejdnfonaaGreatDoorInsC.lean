/- What is told of an operation, and right instructions: a contract each, in the program and in the reference. -/
import Derived.Test.YtiinkfejdnfonaaGreatDoorOpI
import Derived.Test.YtiinkfejdnfonaaGreatDoorNumC
import Derived.Test.YtiinkfejdnfonaaGreatDoorKindN
import Derived.Test.YtiinkfejdnfonaaGreatDoorBody
import Derived.Test.YtiinkfejdnfonaaGreatDoorShapeC
namespace Go.Proofs.YtiinkfejdnfonaaGreatDoor.Ops
open Go.RowKit Go.Proofs.YtiinkfejdnfonaaGreatDoor.Num Go.Proofs.YtiinkfejdnfonaaGreatDoor.NumC Go.Proofs.YtiinkfejdnfonaaGreatDoor.Mem Go.Proofs.YtiinkfejdnfonaaGreatDoor.Shape Go.Proofs.YtiinkfejdnfonaaGreatDoor.Body
set_option linter.unusedVariables false

theorem skind_c (op : Int) (w : World) : Calls Tryz.prog 122 #[.int .i64 op] w fun e w' => e = .returned (.int .i64 (kind op)) ∧ w = w' := by
  rcases (by omega : (op ≠ 2 ∧ op ≠ 3 ∧ op ≠ 4 ∧ op ≠ 12 ∧ op ≠ 13 ∧ op ≠ 16 ∧ op ≠ 32 ∧ op ≠ 33 ∧ op ≠ 34 ∧ op ≠ 35 ∧ op ≠ 36 ∧ op ≠ 40 ∧ op ≠ 54 ∧ op ≠ 65) ∨ op = 2 ∨ op = 3 ∨ op = 4 ∨ op = 12 ∨ op = 13 ∨ op = 16 ∨ op = 32 ∨ op = 33 ∨ op = 34 ∨ op = 35 ∨ op = 36 ∨ op = 40 ∨ op = 54 ∨ op = 65) with ⟨h1, h2, h3, h4, h5, h6, h7, h8, h9, h10, h11, h12, h13, h14⟩ | rfl | rfl | rfl | rfl | rfl | rfl | rfl | rfl | rfl | rfl | rfl | rfl | rfl | rfl
  case _ =>
    have hk : kind op = 0 := by
      refine kind_none ?_ ?_ ?_ h14
      · simp [isBeg, h1, h2, h3]
      · simp only [isIdx, Bool.or_eq_false_iff, beq_eq_false_iff_ne, ne_eq, Bool.and_eq_false_iff, decide_eq_false_iff_not]; omega
      · simp [isMem, h12, h13]
    rw [hk]
    clear hk
    go_enter Tryz.func122, Tryz.ntmps122
    go_wp2_with fail
    go_ret
    exact ⟨rfl, rfl⟩
  all_goals
    go_enter Tryz.func122, Tryz.ntmps122
    go_wp2_with fail
    go_ret
    exact ⟨rfl, rfl⟩
theorem iidx_c (op : Int) (w : World) : Calls Tryz.prog 128 #[.int .i64 op] w fun e w' => e = .returned (.bool (isIdx op)) ∧ w = w' := by
  rcases (by omega : (op ≠ 12 ∧ op ≠ 13 ∧ op ≠ 16) ∨ op = 12 ∨ op = 13 ∨ op = 16) with ⟨h1, h2, h3⟩ | rfl | rfl | rfl
  case _ =>
    by_cases h : 32 ≤ op ∧ op ≤ 36
    · obtain ⟨h4, h5⟩ := h
      have hk : isIdx op = true := by simp [isIdx, h4, h5]
      rw [hk]
      clear hk
      go_enter Tryz.func128, Tryz.ntmps128
      go_wp2_with fail
      refine (within_t _ _ _ _ h4 h5).mono ?_
      rintro e w' ⟨rfl, rfl⟩
      go_wp2_with fail
      go_ret
      exact ⟨rfl, rfl⟩
    · have hk : isIdx op = false := by simp only [isIdx, Bool.or_eq_false_iff, beq_eq_false_iff_ne, ne_eq, Bool.and_eq_false_iff, decide_eq_false_iff_not]; omega
      rw [hk]
      clear hk
      go_enter Tryz.func128, Tryz.ntmps128
      go_wp2_with fail
      refine (within_f _ _ _ _ (by omega)).mono ?_
      rintro e w' ⟨rfl, rfl⟩
      have hb : (op == 12 || op == 13 || op == 16) = false := by simp [h1, h2, h3]
      go_wp2_with fail
      go_ret
      exact ⟨rfl, rfl⟩
  all_goals
    go_enter Tryz.func128, Tryz.ntmps128
    go_wp2_with fail
    go_ret
    exact ⟨rfl, rfl⟩
theorem iidx_b (op : Int) (b : Bool) (w : World) (h : Hid (isIdx op = b)) : Calls Tryz.prog 128 #[.int .i64 op] w fun e w' => e = .returned (.bool b) ∧ w = w' :=
  (iidx_c op w).mono fun _ _ ⟨he, hw⟩ => ⟨by rw [he, h.out], hw⟩
theorem imem_c (op : Int) (w : World) : Calls Tryz.prog 129 #[.int .i64 op] w fun e w' => e = .returned (.bool (isMem op)) ∧ w = w' := by
  rcases (by omega : (op ≠ 40 ∧ op ≠ 54) ∨ op = 40 ∨ op = 54) with ⟨h1, h2⟩ | rfl | rfl
  case _ =>
    go_enter Tryz.func129, Tryz.ntmps129
    go_wp2_with fail
    go_ret
    exact ⟨rfl, rfl⟩
  all_goals
    go_enter Tryz.func129, Tryz.ntmps129
    go_wp2_with fail
    go_ret
    exact ⟨rfl, rfl⟩
theorem imem_b (op : Int) (b : Bool) (w : World) (h : Hid (isMem op = b)) : Calls Tryz.prog 129 #[.int .i64 op] w fun e w' => e = .returned (.bool b) ∧ w = w' :=
  (imem_c op w).mono fun _ _ ⟨he, hw⟩ => ⟨by rw [he, h.out], hw⟩
theorem ibeg_b (op : Int) (b : Bool) (w : World) (h : Hid (isBeg op = b)) : Calls Tryz.prog 115 #[.int .i64 op] w fun e w' => e = .returned (.bool b) ∧ w = w' :=
  (ibeg_c op w).mono fun _ _ ⟨he, hw⟩ => ⟨by rw [he, h.out], hw⟩
/-- what an instruction's own variable holds, kept over a call -/
theorem ks {w W W' : World} {v : Value} (h : W.cell? ⟨w.heap.size, 0, none⟩ = some v ∧ Below w.heap.size w W) (hb : Below W.heap.size W W') : W'.cell? ⟨w.heap.size, 0, none⟩ = some v ∧ Below w.heap.size w W' :=
  ⟨(hb.cell (World.block_lt_of_cell? W _ h.1)).trans h.1, bel_step h.2 hb h.2.size⟩
/-- what an instruction's own variable holds: all three -/
def Var3 (w : World) (op a b : Int) (W : World) : Prop := W.cell? ⟨w.heap.size, 0, none⟩ = some (.int .i64 op) ∧ W.cell? ⟨w.heap.size, 1, none⟩ = some (.int .i64 a) ∧ W.cell? ⟨w.heap.size, 2, none⟩ = some (.int .i64 b) ∧ Below w.heap.size w W
theorem var3_new (w : World) (op a b : Int) (t : TypeId) : Var3 w op a b (w.alloc (.cells #[.int .i64 op, .int .i64 a, .int .i64 b] t)) :=
  ⟨by simp, by simp, by simp, (Below.refl _ _).alloc (Nat.le_refl _) _⟩
theorem var3_bel {w W W' : World} {op a b : Int} (h : Var3 w op a b W) (hb : Below W.heap.size W W') : Var3 w op a b W' := by
  obtain ⟨h0, h1, h2, h3⟩ := h
  have hl : w.heap.size < W.heap.size := World.block_lt_of_cell? W _ h0
  exact ⟨(hb.cell (p := ⟨w.heap.size, 0, none⟩) hl).trans h0, (hb.cell (p := ⟨w.heap.size, 1, none⟩) hl).trans h1, (hb.cell (p := ⟨w.heap.size, 2, none⟩) hl).trans h2, bel_step h3 hb h3.size⟩
theorem var3_drewN {w W : World} {op a b : Int} (h : Var3 w op a b W) (k : Nat) : Var3 w op a b (W.drewN k) := ⟨h.1, h.2.1, h.2.2.1, bel_drewN h.2.2.2 k⟩
set_option maxRecDepth 100000 in
theorem iInsOk (op a b : Int) (w : World) : Calls Tryz.prog 114 #[.agg #[.int .i64 op, .int .i64 a, .int .i64 b]] w fun e w' => e = .returned (.bool (insOk (op, a, b))) ∧ Below w.heap.size w w' := by
  go_enter Tryz.func114, Tryz.ntmps114
  go_wp2_with fail
  have V0 := var3_new w op a b 139
  generalize w.alloc (.cells #[.int .i64 op, .int .i64 a, .int .i64 b] 139) = W0 at V0 ⊢
  have V0' : Var3 w op a b W0.drew := var3_drewN V0 1
  go_region_held (fun W => W.cell? ⟨w.heap.size, 0, none⟩ = some (.int .i64 op) ∧ Var3 w op a b W) (first | exact ⟨V0'.1, V0'⟩ | assumption) (first
    | (go_at_call 127
       refine (opCodes_c _).mono ?_
       rintro e w1 ⟨A1, c1, rfl, ho1, hb1⟩
       have R1 := hide ho1.rd
       have V1 := var3_bel (by assumption) hb1
       have S1 := And.intro V1.1 V1)
    | (go_at_call 126
       refine (contains_ops _ _ _ _ R1.out).mono ?_
       rintro e w2 ⟨rfl, hb2⟩
       have V2 := var3_bel (by assumption) hb2
       have S2 := And.intro V2.1 V2))
  clear V0 V0'
  obtain ⟨c0, c1, c2, hb3⟩ := V2
  have V3 : Var3 w op a b w2 := ⟨c0, c1, c2, hb3⟩
  have HV := hide V3
  clear V3 hb3 hb1 hb2 ho1
  cases hk : known op
  · have HK := hide hk
    clear hk
    go_wp2_with fail
    go_ret
    exact ⟨by rw [ok_un HK.out]; rfl, HV.out.2.2.2⟩
  · have HK := hide hk
    clear hk
    cases hbg : isBeg op
    · have HB := hide hbg
      cases hix : isIdx op
      · have HI := hide hix
        cases hmm : isMem op
        · have HM := hide hmm
          by_cases h65 : op = 65
          · subst h65
            have HKD := hide (show kind 65 = 4 from rfl)
            clear hbg hix hmm
            by_cases h : -2147483648 ≤ a ∧ a ≤ 2147483647
            · obtain ⟨h0, h1⟩ := h
              have HE := hide (ok4 (b := b) HK.out HKD.out h0 h1)
              go_wp2_with fail
              refine (ibeg_b _ _ _ HB).mono ?_
              rintro e w' ⟨rfl, rfl⟩
              go_wp2_with fail
              refine (iidx_b _ _ _ HI).mono ?_
              rintro e w' ⟨rfl, rfl⟩
              go_wp2_with fail
              refine (imem_b _ _ _ HM).mono ?_
              rintro e w' ⟨rfl, rfl⟩
              go_wp2_with fail
              refine (within_t _ _ _ _ h0 h1).mono ?_
              rintro e w' ⟨rfl, rfl⟩
              go_wp2_with fail
              go_ret
              exact ⟨by rw [HE.out]; rfl, HV.out.2.2.2⟩
            · have hn : a < -2147483648 ∨ 2147483647 < a := by omega
              have HE := hide (ok4f (b := b) HK.out HKD.out hn)
              clear h
              go_wp2_with fail
              refine (ibeg_b _ _ _ HB).mono ?_
              rintro e w' ⟨rfl, rfl⟩
              go_wp2_with fail
              refine (iidx_b _ _ _ HI).mono ?_
              rintro e w' ⟨rfl, rfl⟩
              go_wp2_with fail
              refine (imem_b _ _ _ HM).mono ?_
              rintro e w' ⟨rfl, rfl⟩
              go_wp2_with fail
              refine (within_f _ _ _ _ hn).mono ?_
              rintro e w' ⟨rfl, rfl⟩
              go_wp2_with fail
              go_ret
              exact ⟨by rw [HE.out]; rfl, HV.out.2.2.2⟩
          · have HKD := hide (kind_none hbg hix hmm h65)
            clear hbg hix hmm
            by_cases h : a = 0
            · have HE := hide (ok0 (b := b) HK.out HKD.out h)
              subst h
              go_wp2_with fail
              refine (ibeg_b _ _ _ HB).mono ?_
              rintro e w' ⟨rfl, rfl⟩
              go_wp2_with fail
              refine (iidx_b _ _ _ HI).mono ?_
              rintro e w' ⟨rfl, rfl⟩
              go_wp2_with fail
              refine (imem_b _ _ _ HM).mono ?_
              rintro e w' ⟨rfl, rfl⟩
              go_wp2_with fail
              go_ret
              exact ⟨by rw [HE.out]; rfl, HV.out.2.2.2⟩
            · have HE := hide (ok0f (b := b) HK.out HKD.out h)
              have hab : (a == 0) = false := by simpa using h
              go_wp2_with fail
              refine (ibeg_b _ _ _ HB).mono ?_
              rintro e w' ⟨rfl, rfl⟩
              go_wp2_with fail
              refine (iidx_b _ _ _ HI).mono ?_
              rintro e w' ⟨rfl, rfl⟩
              go_wp2_with fail
              refine (imem_b _ _ _ HM).mono ?_
              rintro e w' ⟨rfl, rfl⟩
              go_wp2_with fail
              go_ret
              exact ⟨by rw [HE.out]; rfl, HV.out.2.2.2⟩
        · have HM := hide hmm
          have HKD := hide (kind_mem hmm).1
          clear hbg hix hmm
          by_cases h : 0 ≤ a ∧ a ≤ 2147483647
          · obtain ⟨h0, h1⟩ := h
            by_cases h' : 0 ≤ b ∧ b ≤ 2
            · obtain ⟨h2, h3⟩ := h'
              have HE := hide (ok3 HK.out HKD.out h0 h1 h2 h3)
              go_wp2_with fail
              refine (ibeg_b _ _ _ HB).mono ?_
              rintro e w' ⟨rfl, rfl⟩
              go_wp2_with fail
              refine (iidx_b _ _ _ HI).mono ?_
              rintro e w' ⟨rfl, rfl⟩
              go_wp2_with fail
              refine (imem_b _ _ _ HM).mono ?_
              rintro e w' ⟨rfl, rfl⟩
              go_wp2_with fail
              refine (within_t _ _ _ _ h0 h1).mono ?_
              rintro e w' ⟨rfl, rfl⟩
              go_wp2_with fail
              refine (within_t _ _ _ _ h2 h3).mono ?_
              rintro e w' ⟨rfl, rfl⟩
              go_wp2_with fail
              go_ret
              exact ⟨by rw [HE.out]; rfl, HV.out.2.2.2⟩
            · have hn : b < 0 ∨ 2 < b := by omega
              have HE := hide (ok3f (a := a) HK.out HKD.out (.inr hn))
              clear h'
              go_wp2_with fail
              refine (ibeg_b _ _ _ HB).mono ?_
              rintro e w' ⟨rfl, rfl⟩
              go_wp2_with fail
              refine (iidx_b _ _ _ HI).mono ?_
              rintro e w' ⟨rfl, rfl⟩
              go_wp2_with fail
              refine (imem_b _ _ _ HM).mono ?_
              rintro e w' ⟨rfl, rfl⟩
              go_wp2_with fail
              refine (within_t _ _ _ _ h0 h1).mono ?_
              rintro e w' ⟨rfl, rfl⟩
              go_wp2_with fail
              refine (within_f _ _ _ _ hn).mono ?_
              rintro e w' ⟨rfl, rfl⟩
              go_wp2_with fail
              go_ret
              exact ⟨by rw [HE.out]; rfl, HV.out.2.2.2⟩
          · have hn : a < 0 ∨ 2147483647 < a := by omega
            have HE := hide (ok3f (b := b) HK.out HKD.out (.inl hn))
            clear h
            go_wp2_with fail
            refine (ibeg_b _ _ _ HB).mono ?_
            rintro e w' ⟨rfl, rfl⟩
            go_wp2_with fail
            refine (iidx_b _ _ _ HI).mono ?_
            rintro e w' ⟨rfl, rfl⟩
            go_wp2_with fail
            refine (imem_b _ _ _ HM).mono ?_
            rintro e w' ⟨rfl, rfl⟩
            go_wp2_with fail
            refine (within_f _ _ _ _ hn).mono ?_
            rintro e w' ⟨rfl, rfl⟩
            go_wp2_with fail
            go_ret
            exact ⟨by rw [HE.out]; rfl, HV.out.2.2.2⟩
      · have HI := hide hix
        have HKD := hide (kind_idx hix).1
        clear hbg hix
        by_cases h : 0 ≤ a ∧ a ≤ 1000
        · obtain ⟨h0, h1⟩ := h
          have HE := hide (ok2 (b := b) HK.out HKD.out h0 h1)
          go_wp2_with fail
          refine (ibeg_b _ _ _ HB).mono ?_
          rintro e w' ⟨rfl, rfl⟩
          go_wp2_with fail
          refine (iidx_b _ _ _ HI).mono ?_
          rintro e w' ⟨rfl, rfl⟩
          go_wp2_with fail
          refine (within_t _ _ _ _ h0 h1).mono ?_
          rintro e w' ⟨rfl, rfl⟩
          go_wp2_with fail
          go_ret
          exact ⟨by rw [HE.out]; rfl, HV.out.2.2.2⟩
        · have hn : a < 0 ∨ 1000 < a := by omega
          have HE := hide (ok2f (b := b) HK.out HKD.out hn)
          clear h
          go_wp2_with fail
          refine (ibeg_b _ _ _ HB).mono ?_
          rintro e w' ⟨rfl, rfl⟩
          go_wp2_with fail
          refine (iidx_b _ _ _ HI).mono ?_
          rintro e w' ⟨rfl, rfl⟩
          go_wp2_with fail
          refine (within_f _ _ _ _ hn).mono ?_
          rintro e w' ⟨rfl, rfl⟩
          go_wp2_with fail
          go_ret
          exact ⟨by rw [HE.out]; rfl, HV.out.2.2.2⟩
    · have HB := hide hbg
      have HKD := hide (kind_beg hbg)
      clear hbg
      by_cases h : 0 ≤ a ∧ a ≤ 1
      · obtain ⟨h0, h1⟩ := h
        have HE := hide (ok1 (b := b) HK.out HKD.out h0 h1)
        go_wp2_with fail
        refine (ibeg_b _ _ _ HB).mono ?_
        rintro e w' ⟨rfl, rfl⟩
        go_wp2_with fail
        refine (within_t _ _ _ _ h0 h1).mono ?_
        rintro e w' ⟨rfl, rfl⟩
        go_wp2_with fail
        go_ret
        exact ⟨by rw [HE.out]; rfl, HV.out.2.2.2⟩
      · have hn : a < 0 ∨ 1 < a := by omega
        have HE := hide (ok1f (b := b) HK.out HKD.out hn)
        clear h
        go_wp2_with fail
        refine (ibeg_b _ _ _ HB).mono ?_
        rintro e w' ⟨rfl, rfl⟩
        go_wp2_with fail
        refine (within_f _ _ _ _ hn).mono ?_
        rintro e w' ⟨rfl, rfl⟩
        go_wp2_with fail
        go_ret
        exact ⟨by rw [HE.out]; rfl, HV.out.2.2.2⟩
end Go.Proofs.YtiinkfejdnfonaaGreatDoor.Ops
