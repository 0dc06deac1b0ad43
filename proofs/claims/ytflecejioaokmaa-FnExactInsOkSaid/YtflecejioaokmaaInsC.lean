/- What is told of an operation, and right instructions: a contract each, in the program and in the reference. -/
import Derived.Test.YtflecejioaokmaaOpC
import Derived.Test.YtflecejioaokmaaNumC
import Derived.Test.YtflecejioaokmaaKindN
import Derived.Test.YtflecejioaokmaaBody
import Derived.Test.YtflecejioaokmaaShapeC
namespace Go.Proofs.Ytflecejioaokmaa.Ops
open Go.RowKit Go.Proofs.Ytflecejioaokmaa.Num Go.Proofs.Ytflecejioaokmaa.NumC Go.Proofs.Ytflecejioaokmaa.Mem Go.Proofs.Ytflecejioaokmaa.Shape Go.Proofs.Ytflecejioaokmaa.Body
set_option linter.unusedVariables false

theorem skind_c (op : Int) (w : World) : Calls Try.prog 57 #[.int .i64 op] w fun e w' => e = .returned (.int .i64 (kind op)) ∧ w = w' := by
  rcases (by omega : (op ≠ 2 ∧ op ≠ 3 ∧ op ≠ 4 ∧ op ≠ 12 ∧ op ≠ 13 ∧ op ≠ 16 ∧ op ≠ 32 ∧ op ≠ 33 ∧ op ≠ 34 ∧ op ≠ 35 ∧ op ≠ 36 ∧ op ≠ 40 ∧ op ≠ 54 ∧ op ≠ 65) ∨ op = 2 ∨ op = 3 ∨ op = 4 ∨ op = 12 ∨ op = 13 ∨ op = 16 ∨ op = 32 ∨ op = 33 ∨ op = 34 ∨ op = 35 ∨ op = 36 ∨ op = 40 ∨ op = 54 ∨ op = 65) with ⟨h1, h2, h3, h4, h5, h6, h7, h8, h9, h10, h11, h12, h13, h14⟩ | rfl | rfl | rfl | rfl | rfl | rfl | rfl | rfl | rfl | rfl | rfl | rfl | rfl | rfl
  case _ =>
    have hk : kind op = 0 := by
      refine kind_none ?_ ?_ ?_ h14
      · simp [isBeg, h1, h2, h3]
      · simp only [isIdx, Bool.or_eq_false_iff, beq_eq_false_iff_ne, ne_eq, Bool.and_eq_false_iff, decide_eq_false_iff_not]; omega
      · simp [isMem, h12, h13]
    rw [hk]
    clear hk
    go_enter Try.func57, Try.ntmps57
    go_wp2_with fail
    go_ret
    exact ⟨rfl, rfl⟩
  all_goals
    go_enter Try.func57, Try.ntmps57
    go_wp2_with fail
    go_ret
    exact ⟨rfl, rfl⟩
theorem iidx_c (op : Int) (w : World) : Calls Try.prog 61 #[.int .i64 op] w fun e w' => e = .returned (.bool (isIdx op)) ∧ w = w' := by
  rcases (by omega : (op ≠ 12 ∧ op ≠ 13 ∧ op ≠ 16) ∨ op = 12 ∨ op = 13 ∨ op = 16) with ⟨h1, h2, h3⟩ | rfl | rfl | rfl
  case _ =>
    by_cases h : 32 ≤ op ∧ op ≤ 36
    · obtain ⟨h4, h5⟩ := h
      have hk : isIdx op = true := by simp [isIdx, h4, h5]
      rw [hk]
      clear hk
      go_enter Try.func61, Try.ntmps61
      go_wp2_with fail
      refine (within_t _ _ _ _ h4 h5).mono ?_
      rintro e w' ⟨rfl, rfl⟩
      go_wp2_with fail
      go_ret
      exact ⟨rfl, rfl⟩
    · have hk : isIdx op = false := by simp only [isIdx, Bool.or_eq_false_iff, beq_eq_false_iff_ne, ne_eq, Bool.and_eq_false_iff, decide_eq_false_iff_not]; omega
      rw [hk]
      clear hk
      go_enter Try.func61, Try.ntmps61
      go_wp2_with fail
      refine (within_f _ _ _ _ (by omega)).mono ?_
      rintro e w' ⟨rfl, rfl⟩
      have hb : (op == 12 || op == 13 || op == 16) = false := by simp [h1, h2, h3]
      go_wp2_with fail
      go_ret
      exact ⟨rfl, rfl⟩
  all_goals
    go_enter Try.func61, Try.ntmps61
    go_wp2_with fail
    go_ret
    exact ⟨rfl, rfl⟩
theorem iidx_b (op : Int) (b : Bool) (w : World) (h : Hid (isIdx op = b)) : Calls Try.prog 61 #[.int .i64 op] w fun e w' => e = .returned (.bool b) ∧ w = w' :=
  (iidx_c op w).mono fun _ _ ⟨he, hw⟩ => ⟨by rw [he, h.out], hw⟩
theorem imem_c (op : Int) (w : World) : Calls Try.prog 62 #[.int .i64 op] w fun e w' => e = .returned (.bool (isMem op)) ∧ w = w' := by
  rcases (by omega : (op ≠ 40 ∧ op ≠ 54) ∨ op = 40 ∨ op = 54) with ⟨h1, h2⟩ | rfl | rfl
  case _ =>
    go_enter Try.func62, Try.ntmps62
    go_wp2_with fail
    go_ret
    exact ⟨rfl, rfl⟩
  all_goals
    go_enter Try.func62, Try.ntmps62
    go_wp2_with fail
    go_ret
    exact ⟨rfl, rfl⟩
theorem imem_b (op : Int) (b : Bool) (w : World) (h : Hid (isMem op = b)) : Calls Try.prog 62 #[.int .i64 op] w fun e w' => e = .returned (.bool b) ∧ w = w' :=
  (imem_c op w).mono fun _ _ ⟨he, hw⟩ => ⟨by rw [he, h.out], hw⟩
theorem ibeg_b (op : Int) (b : Bool) (w : World) (h : Hid (isBeg op = b)) : Calls Try.prog 54 #[.int .i64 op] w fun e w' => e = .returned (.bool b) ∧ w = w' :=
  (ibeg_c op w).mono fun _ _ ⟨he, hw⟩ => ⟨by rw [he, h.out], hw⟩
/-- the first place of a value in a list, told by what is known of it -/
def First (l : List Int) (v r : Int) : Prop := (r = -1 ∧ v ∉ l) ∨ (∃ k : Nat, r = k ∧ l[k]? = some v ∧ ∀ j, j < k → l[j]? ≠ some v)
theorem index_int (A : Option Addr) (n c : Nat) (l : List Int) (v : Int) (w : World) (hr : Rd w w.heap.size 1 A n (in64 l)) (hn : n ≤ 1048576) :
    Calls Try.prog 87 #[.slice A n c, .int .i64 v] w fun e w' => ∃ r, e = .returned (.int .i64 r) ∧ First l v r ∧ Below w.heap.size w w' := by
  have hn' : (n : Int) ≤ 1048576 := by omega
  have hl : l.length = n := by have := hr.1; simp only [in64, List.length_map] at this; omega
  have HR := hide hr
  have HL := hide hl
  clear hr hn hl
  go_enter Try.func87, Try.ntmps87
  go_wp2_with fail
  go_loopw [8] (fun i wr => ∃ k : Nat, k ≤ n ∧ i = .int .i64 k ∧ Hid (∀ j, j < k → l[j]? ≠ some v) ∧ ∃ q, wr = w.drewN q) (fun i _ => n - (intOf i).toNat)
  case atStart => exact ⟨0, Nat.zero_le _, rfl, hide (fun j hj => by omega), 0, rfl⟩
  case round =>
    obtain ⟨k, hk, rfl, HE, q, rfl⟩ := hrel
    by_cases hlt : k < n
    · obtain ⟨b, off, rfl, x, hx, h1, _⟩ := get_in64 (wr := w) HR.out k hlt (fun _ _ => rfl)
      have hi0 : (k : Int) < (n : Int) := by omega
      have hi1 : (0 : Int) ≤ (k : Int) := by omega
      have HXk := hide hx
      clear hx
      by_cases hxy : v = x
      · subst hxy
        go_wp2_with fail
        go_ret
        exact ⟨k, rfl, .inr ⟨k, rfl, HXk.out, HE.out⟩, bel_drewN (Below.refl _ _) _⟩
      · have hxb : (v == x) = false := by simpa using hxy
        go_wp2_with fail
        go_roundw
        case rel =>
          refine ⟨k + 1, by omega, by go_num, hide (fun j hj => ?_), _, rfl⟩
          by_cases hjk : j < k
          · exact HE.out j hjk
          · obtain rfl : j = k := by omega
            rw [HXk.out]
            exact fun e => hxy (Option.some.inj e).symm
        case measure => simp [intOf]; omega
    · obtain rfl : k = n := by omega
      go_wp2_with fail
      go_ret
      refine ⟨-1, rfl, .inl ⟨rfl, fun h => ?_⟩, bel_drewN (Below.refl _ _) _⟩
      obtain ⟨j, hj, he⟩ := List.getElem_of_mem h
      exact HE.out j (by have := HL.out; omega) (by rw [List.getElem?_eq_getElem hj, he])
theorem ops_more {xs : List Int} {m : Nat} (h : m < xs.length) : xs.take m ++ [xs[m]] = xs.take (m + 1) := List.take_append_getElem h
theorem all76 : allOps.length = 52 := rfl
theorem all_mid (k : Nat) (h : k < 10) : allOps.take (24 + k) ++ [70 + (k : Int)] = allOps.take (24 + k + 1) := by
  rcases (by omega : k = 0 ∨ k = 1 ∨ k = 2 ∨ k = 3 ∨ k = 4 ∨ k = 5 ∨ k = 6 ∨ k = 7 ∨ k = 8 ∨ k = 9) with rfl | rfl | rfl | rfl | rfl | rfl | rfl | rfl | rfl | rfl <;> rfl
theorem all_end (k : Nat) (h : k < 18) : allOps.take (34 + k) ++ [103 + (k : Int)] = allOps.take (34 + k + 1) := by
  rcases (by omega : k = 0 ∨ k = 1 ∨ k = 2 ∨ k = 3 ∨ k = 4 ∨ k = 5 ∨ k = 6 ∨ k = 7 ∨ k = 8 ∨ k = 9 ∨ k = 10 ∨ k = 11 ∨ k = 12 ∨ k = 13 ∨ k = 14 ∨ k = 15 ∨ k = 16 ∨ k = 17) with rfl | rfl | rfl | rfl | rfl | rfl | rfl | rfl | rfl | rfl | rfl | rfl | rfl | rfl | rfl | rfl | rfl | rfl <;> rfl
set_option maxRecDepth 100000 in
theorem opCodes_c (w : World) : Calls Try.prog 60 #[] w (Fresh 3 1 52 (in64 allOps) w) := by
  go_enter Try.func60, Try.ntmps60
  go_wp2_with fail
  go_loopw [1, 2] (fun s i wr => ∃ (k : Nat) (A : Option Addr) (c : Nat), k ≤ 10 ∧ i = .int .i64 (70 + k) ∧ s = .slice A (24 + k) c ∧ Hid (Ow wr w.heap.size 3 1 A (24 + k) c (in64 (allOps.take (24 + k)))) ∧ Hid (Below w.heap.size w wr)) (fun _ i _ => 80 - (intOf i).toNat)
  case atStart => exact ⟨0, _, _, Nat.zero_le _, rfl, rfl, hide (World.ownsRow_lit w _ 24 (Nat.le_refl _) (by decide) rfl), hide ((Below.refl _ _).alloc (Nat.le_refl _) _)⟩
  case round =>
    obtain ⟨k, A, c, hk, rfl, rfl, HO, HB⟩ := hrel
    by_cases hlt : k < 10
    · have hi : (70 : Int) + k ≤ 79 := by omega
      go_wp2_with (at_builtin; refine app1 rfl _ _ rfl rfl rfl EI HO.out rfl (one64 _) (by omega) HB.out.size ?_; intro B3 d3 w3 ho3 hg3 hl3)
      go_roundw
      case rel =>
        refine ⟨k + 1, B3, d3, by omega, by go_num, rfl, hide ?_, hide (bel_grown HB.out hg3 HB.out.size (fun g hg => (HO.out.blk_lt g hg).1))⟩
        rw [← Nat.add_assoc, ← all_mid k hlt, in64_app]
        exact ho3
      case measure => simp [intOf]; omega
    · obtain rfl : k = 10 := by omega
      go_wp2_with fail
      clear hlt hk
      have HO34 := hide (show Ow wr w.heap.size 3 1 A 34 c (in64 (allOps.take 34)) from HO.out)
      clear HO
      go_loopw [1, 3] (fun s i wq => ∃ (k : Nat) (A : Option Addr) (c : Nat), k ≤ 18 ∧ i = .int .i64 (103 + k) ∧ s = .slice A (34 + k) c ∧ Hid (Ow wq w.heap.size 3 1 A (34 + k) c (in64 (allOps.take (34 + k)))) ∧ Hid (Below w.heap.size w wq)) (fun _ i _ => 130 - (intOf i).toNat)
      case atStart => exact ⟨0, A, c, Nat.zero_le _, rfl, rfl, HO34, HB⟩
      case round =>
        obtain ⟨k, A, c, hk, rfl, rfl, HO, HB⟩ := hrel
        by_cases hlt : k < 18
        · have hi : (103 : Int) + k ≤ 120 := by omega
          go_wp2_with (at_builtin; refine app1 rfl _ _ rfl rfl rfl EI HO.out rfl (one64 _) (by omega) HB.out.size ?_; intro B3 d3 w3 ho3 hg3 hl3)
          go_roundw
          case rel =>
            refine ⟨k + 1, by omega, by go_num, B3, d3, ⟨rfl, by omega, rfl⟩, hide ?_, hide (bel_grown HB.out hg3 HB.out.size (fun g hg => (HO.out.blk_lt g hg).1))⟩
            rw [← Nat.add_assoc, ← all_end k hlt, in64_app]
            exact ho3
          case measure => simp [intOf]; omega
        · obtain rfl : k = 18 := by omega
          go_wp2_with fail
          go_ret
          exact ⟨A, c, rfl, HO.out, HB.out⟩
theorem contains_ops (A : Option Addr) (c : Nat) (v : Int) (w : World) (hr : Rd w w.heap.size 1 A 52 (in64 allOps)) :
    Calls Try.prog 59 #[.slice A 52 c, .int .i64 v] w fun e w' => e = .returned (.bool (known v)) ∧ Below w.heap.size w w' := by
  have HR := hide hr
  clear hr
  go_enter Try.func59, Try.ntmps59
  go_wp2_with fail
  refine (index_int A 52 c allOps v w HR.out (by omega)).mono ?_
  rintro e w1 ⟨r, rfl, hf, hb⟩
  go_wp2_with fail
  go_ret
  refine ⟨?_, hb⟩
  have hk : known v = decide (r ≥ 0) := by
    rcases hf with ⟨rfl, hn⟩ | ⟨k, rfl, hk, _⟩
    · rw [known_false.2 hn]; rfl
    · rw [known_iff.2 (List.mem_of_getElem? hk)]
      symm
      exact decide_eq_true (by omega)
  rw [hk]
  rfl
/-- what an instruction's own variable holds, kept over a call -/
theorem ks {w W W' : World} {v : Value} (h : W.cell? ⟨w.heap.size, 0, none⟩ = some v ∧ Below w.heap.size w W) (hb : Below W.heap.size W W') : W'.cell? ⟨w.heap.size, 0, none⟩ = some v ∧ Below w.heap.size w W' :=
  ⟨(hb.cell (World.block_lt_of_cell? W _ h.1)).trans h.1, bel_step h.2 hb h.2.size⟩
/-- what an instruction's own variable holds: all three -/
def Var3 (w : World) (op a b : Int) (W : World) : Prop := W.cell? ⟨w.heap.size, 0, none⟩ = some (.int .i64 op) ∧ W.cell? ⟨w.heap.size, 1, none⟩ = some (.int .i64 a) ∧ W.cell? ⟨w.heap.size, 2, none⟩ = some (.int .i64 b) ∧ Below w.heap.size w W
theorem var3_new (w : World) (op a b : Int) (t : TypeId) : Var3 w op a b (w.alloc (.cells #[.int .i64 op, .int .i64 a, .int .i64 b] t)) :=
  ⟨by simp, by simp, by simp, (Below.refl _ _).alloc (Nat.le_refl _) _⟩
theorem var3_bel {w W W' : World} {op a b : Int} (h : Var3 w op a b W) (hb : Below W.heap.size W W') : Var3 w op a b W' := by
  obtain ⟨h0, h1, h2, h3⟩ := h
  have hl : w.heap.size < W.heap.size := World.block_lt_of_cell? W _ h0
  exact ⟨(hb.cell (p := ⟨w.heap.size, 0, none⟩) hl).trans h0, (hb.cell (p := ⟨w.heap.size, 1, none⟩) hl).trans h1, (hb.cell (p := ⟨w.heap.size, 2, none⟩) hl).trans h2, bel_step h3 hb h3.size⟩
theorem var3_drewN {w W : World} {op a b : Int} (h : Var3 w op a b W) (k : Nat) : Var3 w op a b (W.drewN k) := ⟨h.1, h.2.1, h.2.2.1, bel_drewN h.2.2.2 k⟩
set_option maxRecDepth 100000 in
theorem iInsOk (op a b : Int) (w : World) : Calls Try.prog 33 #[.agg #[.int .i64 op, .int .i64 a, .int .i64 b]] w fun e w' => e = .returned (.bool (insOk (op, a, b))) ∧ Below w.heap.size w w' := by
  go_enter Try.func33, Try.ntmps33
  go_wp2_with fail
  have V0 := var3_new w op a b 42
  generalize w.alloc (.cells #[.int .i64 op, .int .i64 a, .int .i64 b] 42) = W0 at V0 ⊢
  have V0' : Var3 w op a b W0.drew := var3_drewN V0 1
  go_region_held (fun W => W.cell? ⟨w.heap.size, 0, none⟩ = some (.int .i64 op) ∧ Var3 w op a b W) (first | exact ⟨V0'.1, V0'⟩ | assumption) (first
    | (go_at_call 60
       refine (opCodes_c _).mono ?_
       rintro e w1 ⟨A1, c1, rfl, ho1, hb1⟩
       have R1 := hide ho1.rd
       have V1 := var3_bel (by assumption) hb1
       have S1 := And.intro V1.1 V1)
    | (go_at_call 59
       refine (contains_ops _ _ _ _ R1.out).mono ?_
       rintro e w2 ⟨rfl, hb2⟩
       have V2 := var3_bel (by assumption) hb2
       have S2 := And.intro V2.1 V2))
  clear V0 V0'
  obtain ⟨c0, c1, c2, hb3⟩ := V2
  have V3 : Var3 w op a b w2 := ⟨c0, c1, c2, hb3⟩
  have HV := hide V3
  clear V3 hb3 hb1 hb2 ho1
  cases hk : known op
  · have HK := hide hk
    clear hk
    go_wp2_with fail
    go_ret
    exact ⟨by rw [ok_un HK.out]; rfl, HV.out.2.2.2⟩
  · have HK := hide hk
    clear hk
    cases hbg : isBeg op
    · have HB := hide hbg
      cases hix : isIdx op
      · have HI := hide hix
        cases hmm : isMem op
        · have HM := hide hmm
          by_cases h65 : op = 65
          · subst h65
            have HKD := hide (show kind 65 = 4 from rfl)
            clear hbg hix hmm
            by_cases h : -2147483648 ≤ a ∧ a ≤ 2147483647
            · obtain ⟨h0, h1⟩ := h
              have HE := hide (ok4 (b := b) HK.out HKD.out h0 h1)
              go_wp2_with fail
              refine (ibeg_b _ _ _ HB).mono ?_
              rintro e w' ⟨rfl, rfl⟩
              go_wp2_with fail
              refine (iidx_b _ _ _ HI).mono ?_
              rintro e w' ⟨rfl, rfl⟩
              go_wp2_with fail
              refine (imem_b _ _ _ HM).mono ?_
              rintro e w' ⟨rfl, rfl⟩
              go_wp2_with fail
              refine (within_t _ _ _ _ h0 h1).mono ?_
              rintro e w' ⟨rfl, rfl⟩
              go_wp2_with fail
              go_ret
              exact ⟨by rw [HE.out]; rfl, HV.out.2.2.2⟩
            · have hn : a < -2147483648 ∨ 2147483647 < a := by omega
              have HE := hide (ok4f (b := b) HK.out HKD.out hn)
              clear h
              go_wp2_with fail
              refine (ibeg_b _ _ _ HB).mono ?_
              rintro e w' ⟨rfl, rfl⟩
              go_wp2_with fail
              refine (iidx_b _ _ _ HI).mono ?_
              rintro e w' ⟨rfl, rfl⟩
              go_wp2_with fail
              refine (imem_b _ _ _ HM).mono ?_
              rintro e w' ⟨rfl, rfl⟩
              go_wp2_with fail
              refine (within_f _ _ _ _ hn).mono ?_
              rintro e w' ⟨rfl, rfl⟩
              go_wp2_with fail
              go_ret
              exact ⟨by rw [HE.out]; rfl, HV.out.2.2.2⟩
          · have HKD := hide (kind_none hbg hix hmm h65)
            clear hbg hix hmm
            by_cases h : a = 0
            · have HE := hide (ok0 (b := b) HK.out HKD.out h)
              subst h
              go_wp2_with fail
              refine (ibeg_b _ _ _ HB).mono ?_
              rintro e w' ⟨rfl, rfl⟩
              go_wp2_with fail
              refine (iidx_b _ _ _ HI).mono ?_
              rintro e w' ⟨rfl, rfl⟩
              go_wp2_with fail
              refine (imem_b _ _ _ HM).mono ?_
              rintro e w' ⟨rfl, rfl⟩
              go_wp2_with fail
              go_ret
              exact ⟨by rw [HE.out]; rfl, HV.out.2.2.2⟩
            · have HE := hide (ok0f (b := b) HK.out HKD.out h)
              have hab : (a == 0) = false := by simpa using h
              go_wp2_with fail
              refine (ibeg_b _ _ _ HB).mono ?_
              rintro e w' ⟨rfl, rfl⟩
              go_wp2_with fail
              refine (iidx_b _ _ _ HI).mono ?_
              rintro e w' ⟨rfl, rfl⟩
              go_wp2_with fail
              refine (imem_b _ _ _ HM).mono ?_
              rintro e w' ⟨rfl, rfl⟩
              go_wp2_with fail
              go_ret
              exact ⟨by rw [HE.out]; rfl, HV.out.2.2.2⟩
        · have HM := hide hmm
          have HKD := hide (kind_mem hmm).1
          clear hbg hix hmm
          by_cases h : 0 ≤ a ∧ a ≤ 2147483647
          · obtain ⟨h0, h1⟩ := h
            by_cases h' : 0 ≤ b ∧ b ≤ 2
            · obtain ⟨h2, h3⟩ := h'
              have HE := hide (ok3 HK.out HKD.out h0 h1 h2 h3)
              go_wp2_with fail
              refine (ibeg_b _ _ _ HB).mono ?_
              rintro e w' ⟨rfl, rfl⟩
              go_wp2_with fail
              refine (iidx_b _ _ _ HI).mono ?_
              rintro e w' ⟨rfl, rfl⟩
              go_wp2_with fail
              refine (imem_b _ _ _ HM).mono ?_
              rintro e w' ⟨rfl, rfl⟩
              go_wp2_with fail
              refine (within_t _ _ _ _ h0 h1).mono ?_
              rintro e w' ⟨rfl, rfl⟩
              go_wp2_with fail
              refine (within_t _ _ _ _ h2 h3).mono ?_
              rintro e w' ⟨rfl, rfl⟩
              go_wp2_with fail
              go_ret
              exact ⟨by rw [HE.out]; rfl, HV.out.2.2.2⟩
            · have hn : b < 0 ∨ 2 < b := by omega
              have HE := hide (ok3f (a := a) HK.out HKD.out (.inr hn))
              clear h'
              go_wp2_with fail
              refine (ibeg_b _ _ _ HB).mono ?_
              rintro e w' ⟨rfl, rfl⟩
              go_wp2_with fail
              refine (iidx_b _ _ _ HI).mono ?_
              rintro e w' ⟨rfl, rfl⟩
              go_wp2_with fail
              refine (imem_b _ _ _ HM).mono ?_
              rintro e w' ⟨rfl, rfl⟩
              go_wp2_with fail
              refine (within_t _ _ _ _ h0 h1).mono ?_
              rintro e w' ⟨rfl, rfl⟩
              go_wp2_with fail
              refine (within_f _ _ _ _ hn).mono ?_
              rintro e w' ⟨rfl, rfl⟩
              go_wp2_with fail
              go_ret
              exact ⟨by rw [HE.out]; rfl, HV.out.2.2.2⟩
          · have hn : a < 0 ∨ 2147483647 < a := by omega
            have HE := hide (ok3f (b := b) HK.out HKD.out (.inl hn))
            clear h
            go_wp2_with fail
            refine (ibeg_b _ _ _ HB).mono ?_
            rintro e w' ⟨rfl, rfl⟩
            go_wp2_with fail
            refine (iidx_b _ _ _ HI).mono ?_
            rintro e w' ⟨rfl, rfl⟩
            go_wp2_with fail
            refine (imem_b _ _ _ HM).mono ?_
            rintro e w' ⟨rfl, rfl⟩
            go_wp2_with fail
            refine (within_f _ _ _ _ hn).mono ?_
            rintro e w' ⟨rfl, rfl⟩
            go_wp2_with fail
            go_ret
            exact ⟨by rw [HE.out]; rfl, HV.out.2.2.2⟩
      · have HI := hide hix
        have HKD := hide (kind_idx hix).1
        clear hbg hix
        by_cases h : 0 ≤ a ∧ a ≤ 1000
        · obtain ⟨h0, h1⟩ := h
          have HE := hide (ok2 (b := b) HK.out HKD.out h0 h1)
          go_wp2_with fail
          refine (ibeg_b _ _ _ HB).mono ?_
          rintro e w' ⟨rfl, rfl⟩
          go_wp2_with fail
          refine (iidx_b _ _ _ HI).mono ?_
          rintro e w' ⟨rfl, rfl⟩
          go_wp2_with fail
          refine (within_t _ _ _ _ h0 h1).mono ?_
          rintro e w' ⟨rfl, rfl⟩
          go_wp2_with fail
          go_ret
          exact ⟨by rw [HE.out]; rfl, HV.out.2.2.2⟩
        · have hn : a < 0 ∨ 1000 < a := by omega
          have HE := hide (ok2f (b := b) HK.out HKD.out hn)
          clear h
          go_wp2_with fail
          refine (ibeg_b _ _ _ HB).mono ?_
          rintro e w' ⟨rfl, rfl⟩
          go_wp2_with fail
          refine (iidx_b _ _ _ HI).mono ?_
          rintro e w' ⟨rfl, rfl⟩
          go_wp2_with fail
          refine (within_f _ _ _ _ hn).mono ?_
          rintro e w' ⟨rfl, rfl⟩
          go_wp2_with fail
          go_ret
          exact ⟨by rw [HE.out]; rfl, HV.out.2.2.2⟩
    · have HB := hide hbg
      have HKD := hide (kind_beg hbg)
      clear hbg
      by_cases h : 0 ≤ a ∧ a ≤ 1
      · obtain ⟨h0, h1⟩ := h
        have HE := hide (ok1 (b := b) HK.out HKD.out h0 h1)
        go_wp2_with fail
        refine (ibeg_b _ _ _ HB).mono ?_
        rintro e w' ⟨rfl, rfl⟩
        go_wp2_with fail
        refine (within_t _ _ _ _ h0 h1).mono ?_
        rintro e w' ⟨rfl, rfl⟩
        go_wp2_with fail
        go_ret
        exact ⟨by rw [HE.out]; rfl, HV.out.2.2.2⟩
      · have hn : a < 0 ∨ 1 < a := by omega
        have HE := hide (ok1f (b := b) HK.out HKD.out hn)
        clear h
        go_wp2_with fail
        refine (ibeg_b _ _ _ HB).mono ?_
        rintro e w' ⟨rfl, rfl⟩
        go_wp2_with fail
        refine (within_f _ _ _ _ hn).mono ?_
        rintro e w' ⟨rfl, rfl⟩
        go_wp2_with fail
        go_ret
        exact ⟨by rw [HE.out]; rfl, HV.out.2.2.2⟩
end Go.Proofs.Ytflecejioaokmaa.Ops
