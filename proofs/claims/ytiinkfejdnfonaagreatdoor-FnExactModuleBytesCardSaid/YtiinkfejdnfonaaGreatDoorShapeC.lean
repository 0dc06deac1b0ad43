/- A right shape, in the program and in the reference: a contract each. -/
import Derived.Test.YtiinkfejdnfonaaGreatDoorBody
namespace Go.Proofs.YtiinkfejdnfonaaGreatDoor.Body
open Go.RowKit Go.Proofs.YtiinkfejdnfonaaGreatDoor.Num Go.Proofs.YtiinkfejdnfonaaGreatDoor.Mem Go.Proofs.YtiinkfejdnfonaaGreatDoor.Shape
set_option linter.unusedVariables false

theorem EI : Elem Tryz.prog 146 3 (.int .i64 0) 1 8 := Elem.mk_ Tryz.underlying146 (by kernel_rfl) rfl (by omega) (by omega)
theorem one64 (x : Int) : ∀ u ∈ (#[Value.int .i64 x] : Array Value).toList, u.oneCell' = true := by
  intro u hu
  simp only [List.mem_singleton] at hu
  subst hu
  rfl
theorem own_nil (w : World) (e size : Nat) : Ow w w.heap.size e size none 0 0 [] := World.ownsRow_nil w _ e size
theorem own_empty (w : World) (e size : Nat) : Ow (w.alloc (.cells #[] e)) w.heap.size e size (some ⟨w.heap.size, 0, none⟩) 0 0 [] := World.ownsRow_made w #[] 0 (Nat.le_refl _) (Nat.zero_le _) (by simp)
theorem own_cap {w : World} {base e size n c : Nat} {A : Option Addr} {xs : List Value} (h : Ow w base e size A n c xs) (hn : 0 < n) : n ≤ c := by
  rcases h.2 with ⟨_, h0⟩ | ⟨g, cap, cur, hv, _, _, hc, _⟩
  · omega
  · injection hv with _ _ h3
    omega
/-- a row is made shorter by one -/
theorem own_less {w : World} {base e m c : Nat} {A : Option Addr} {xs : List Value} {z : Value} (h : Ow w base e 1 A (m + 1) c (xs ++ [z])) : Ow w base e 1 A m c xs := by
  have hl : xs.length = m := by have := h.1; simp at this; omega
  refine ⟨by omega, ?_⟩
  rcases h.2 with ⟨hv, h0⟩ | ⟨g, cap, cur, hv, hb, hg, hn, hm, hs, ht⟩
  · omega
  · injection hv with e1 _ e3
    subst e1; subst e3
    refine .inr ⟨g, c, cur, rfl, hb, hg, by omega, hm, hs, ?_⟩
    have h2 : (cur.toList.take ((m + 1) * 1)).take m = (xs ++ [z]).take m := by rw [ht]
    rw [List.take_take, Nat.min_eq_left (by omega), List.take_left' hl] at h2
    rw [Nat.mul_one]
    exact h2
/-- append of one element in a world where the element's block is told by a number -/
theorem app1x {P : Program} {t e : TypeId} {z : Value} {size bytes base n c g : Nat} {A : Option Addr} {xs : List Value} {w : World} {ops : Array Oper} {rest : List Oper} {o : Oper} {a : Act} {Q : Exit → Act → World → Prop} {cs : Array Value} (hgd : o.guard = none) (s x : Operand)
    (ho : o.op = .call { callee := .builtin .append, args := #[s, x], argTypes := #[t, t] }) (hs : a.eval s = .slice A n c) (hx : a.eval x = .slice (some ⟨g, 0, none⟩) 1 1) (hg : g = w.heap.size)
    (E : Elem P t e z size bytes) (hown : Ow w base e size A n c xs) (hcs : cs.size = size) (h1 : ∀ u ∈ cs.toList, u.oneCell' = true)
    (hb : (n + 1) * bytes ≤ 140737488355328) (hbase : base ≤ w.heap.size)
    (h : ∀ A' c' w', Ow w' base e size A' (n + 1) c' (xs ++ cs.toList) → w.grownBy w' (blk A) → (blk A' = blk A ∨ ∃ g, blk A' = some g ∧ w.heap.size ≤ g) → wpList P ops Q rest (a.put o.dst (.slice A' (n + 1) c')) w') : wpList P ops Q (o :: rest) a (w.alloc (.cells cs e)) := by
  subst hg
  exact app1 hgd s x ho hs hx E hown hcs h1 hb hbase h
theorem kept_var {wr w3 : World} {base e size m cs : Nat} {As : Option Addr} {xs : List Value} {t : TypeId} {x y z : Value} (ho : Ow wr base e size As m cs xs) (hg : (wr.alloc (.cells #[x, y, z] t)).grownBy w3 (blk As)) :
    w3.cell? ⟨wr.heap.size, 0, none⟩ = some x := by
  have h1 := World.cell?_of_block (a := ⟨wr.heap.size, 0, none⟩) (hg.block wr.heap.size (by simp) (fun e => by have := (ho.blk_lt _ e.symm).2; omega))
  rw [h1, cell_of_row _ wr.heap.size 0 _ t (0, 0) (heap_alloc_new wr _)]
  rfl
theorem kept_var2 {wr : World} {base e size m cs g j : Nat} {xs : List Value} {t : TypeId} {x y z u : Value} (ho : Ow wr base e size (some ⟨g, 0, none⟩) m cs xs) :
    ((wr.alloc (.cells #[x, y, z] t)).setCell ⟨g, j, none⟩ u).cell? ⟨wr.heap.size, 0, none⟩ = some x := by
  have hg := (ho.blk_lt g rfl).2
  rw [World.cell?_setCell_other _ _ _ _ (fun e => by injection e with e1 _ _; omega), cell_of_row _ wr.heap.size 0 _ t (0, 0) (heap_alloc_new wr _)]
  rfl
def pI (v : Int) : Bool := decide (v ≠ 0)
def pS (v : Int) : Bool := decide (v = 4)
/-- what the loop keeps: the stack as numbers, what is still to come gives R -/
def SH (p : Int → Bool) (base k n : Nat) (l : List Ins3) (R : Bool) (s : Value) (wr : World) : Prop :=
  ∃ (m : Nat) (zs : List Int) (A : Option Addr) (c : Nat), s = .slice A m c ∧ zs.length = m ∧ m ≤ k ∧ Ow wr base 3 1 A m c (in64 zs) ∧ shapeF (l.drop k) (zs.reverse.map p) = R
theorem in64_app (xs ys : List Int) : in64 (xs ++ ys) = in64 xs ++ in64 ys := by simp [in64]
theorem stack_split {zs : List Int} {m : Nat} (h : zs.length = m) (h0 : m ≠ 0) : ∃ ys z, zs = ys ++ [z] ∧ ys.length = m - 1 := by
  refine ⟨zs.dropLast, zs.getLast (by intro e; subst e; simp at h; omega), (List.dropLast_concat_getLast _).symm, by simp [h]⟩
theorem in64_set (ys : List Int) (z v : Int) (m : Nat) (h : ys.length = m) : (in64 (ys ++ [z])).set m (.int .i64 v) = in64 (ys ++ [v]) := by
  subst h
  simp [in64]
theorem in64_top (ys : List Int) (z : Int) (m : Nat) (h : ys.length = m) : (in64 (ys ++ [z]))[m]? = some (.int .i64 z) := by
  subst h
  simp [in64]
theorem less_row {w : World} {base e m c : Nat} {A : Option Addr} {ys : List Int} {t : Int} (h : Ow w base e 1 A m c (in64 (ys ++ [t]))) (h1 : (1 : Int) ≤ m) : Ow w base e 1 A (m - 1) c (in64 ys) := by
  have h2 : Ow w base e 1 A (m - 1 + 1) c (in64 ys ++ [.int .i64 t]) := by
    rw [show m - 1 + 1 = m from by omega]
    rwa [in64_app] at h
  exact own_less h2
theorem set_row {w : World} {base e m c : Nat} {A : Option Addr} {ys : List Int} {t v : Int} (h : Ow w base e 1 A m c ((in64 (ys ++ [t])).set (m - 1) (.int .i64 v))) (hy : ys.length = m - 1) : Ow w base e 1 A m c (in64 (ys ++ [v])) := by
  rwa [in64_set ys t v (m - 1) hy] at h
set_option maxRecDepth 100000 in
theorem iShapeOk (A : Option Addr) (n c : Nat) (l : List Ins3) (w : World) (hr : Rd w w.heap.size 3 A n (insC l)) (hn : n ≤ 1048576) :
    Calls Tryz.prog 90 #[.slice A n c] w fun e w' => e = .returned (.bool (shapeOk l)) ∧ Below w.heap.size w w' := by
  have hn' : (n : Int) ≤ 1048576 := by omega
  have HR := hide hr
  have HL := hide (rd_ins hr)
  have HN := hide hn
  clear hr hn
  obtain ⟨R, hR⟩ : ∃ R, shapeOk l = R := ⟨_, rfl⟩
  rw [hR]
  have HF := hide hR
  clear hR
  go_enter Tryz.func90, Tryz.ntmps90
  go_wp2_with fail
  go_loopw [3, 10] (fun s i wr => ∃ k : Nat, k ≤ n ∧ i = .int .i64 k ∧ Hid (SH pI w.heap.size k n l R s wr) ∧ Hid (Below w.heap.size w wr)) (fun _ i _ => n - (intOf i).toNat)
  case atStart => exact ⟨0, Nat.zero_le _, rfl, hide ⟨0, [], _, 0, rfl, rfl, Nat.le_refl _, own_nil _ _ _, HF.out⟩, hide (Below.refl _ _)⟩
  case round =>
    obtain ⟨k, hk, rfl, HS, HB⟩ := hrel
    obtain ⟨m, zs, As, cs, rfl, hzl, hmk, ho, hF⟩ := HS.out
    have HO := hide ho
    have HZ := hide hzl
    have hm' : (m : Int) ≤ 1048576 := by omega
    clear ho hzl HS
    by_cases hlt : k < n
    · obtain ⟨b, off, rfl, x, y, z, hx, hc0, hc1, hc2, hbb⟩ := rd_cell (wr := wr) HR.out k hlt (fun p hp => HB.out.cell hp)
      rw [drop_get hx] at hF
      simp only [shapeF] at hF
      clear hx
      have HMK := hide hmk
      have hW := hide (show w.heap.size ≤ wr.heap.size from HB.out.size)
      have hW2 := hide (HB.out.alloc HB.out.size (.cells #[.int .i64 x, .int .i64 y, .int .i64 z] 139))
      have hO2 := hide (show Ow (wr.alloc (.cells #[.int .i64 x, .int .i64 y, .int .i64 z] 139)) w.heap.size 3 1 As m cs (in64 zs) from World.ownsRow.alloc HO.out _)
      by_cases hbg : isBeg x = true
      · rw [if_pos hbg] at hF
        have HBx := hide hbg
        have HF2 := hide hF
        have h11 : x ≠ 11 := (beg11 hbg).1
        have h5 : x ≠ 5 := (beg11 hbg).2
        clear hbg hF hmk
        by_cases h4 : x = 4
        · subst h4
          go_wp2_with (first
            | (at_builtin; refine app1x rfl _ _ rfl rfl rfl (by simp) EI hO2.out rfl (one64 _) (by have := HMK.out; have := HN.out; omega) hW2.out.size ?_; intro A3 c3 w3 ho3 hg3 hl3)
            | (go_at_call 115; refine (ibeg_t _ _ HBx).mono ?_; rintro e w' ⟨rfl, rfl⟩))
          go_roundw
          case rel => exact ⟨k + 1, by omega, by go_num, hide ⟨m + 1, zs ++ [1], A3, c3, rfl, by simp [HZ.out], by have := HMK.out; omega, by rw [in64_app]; exact ho3, by have := HF2.out; simpa [pI] using this⟩, hide (hW2.out.grown hg3 hW2.out.size (fun g hg => (hO2.out.blk_lt g hg).1))⟩
          case measure => simp [intOf]; omega
        · go_wp2_with (first
            | (at_builtin; refine app1x rfl _ _ rfl rfl rfl (by simp) EI hO2.out rfl (one64 _) (by have := HMK.out; have := HN.out; omega) hW2.out.size ?_; intro A3 c3 w3 ho3 hg3 hl3)
            | (go_at_call 115; refine (ibeg_t _ _ HBx).mono ?_; rintro e w' ⟨rfl, rfl⟩))
          go_roundw
          case rel => exact ⟨k + 1, by omega, by go_num, hide ⟨m + 1, zs ++ [0], A3, c3, rfl, by simp [HZ.out], by have := HMK.out; omega, by rw [in64_app]; exact ho3, by have := HF2.out; simpa [pI, h4] using this⟩, hide (hW2.out.grown hg3 hW2.out.size (fun g hg => (hO2.out.blk_lt g hg).1))⟩
          case measure => simp [intOf]; omega
      · rw [if_neg hbg] at hF
        have HBx := hide (show isBeg x = false by simpa using hbg)
        have h4 : x ≠ 4 := (isBeg_ne HBx.out).2.2
        clear hbg
        by_cases h5 : x = 5
        · subst h5
          rw [if_pos rfl] at hF
          by_cases hm0 : m = 0
          · subst hm0
            obtain rfl : zs = [] := List.eq_nil_of_length_eq_zero HZ.out
            simp only [List.reverse_nil, List.map_nil] at hF
            subst hF
            clear hmk
            go_wp2_with (go_at_call 115; refine (ibeg_f _ _ HBx).mono ?_; rintro e w' ⟨rfl, rfl⟩)
            go_ret
            exact ⟨rfl, hW2.out⟩
          · obtain ⟨ys, t, rfl, hyl⟩ := stack_split HZ.out hm0
            have hm1 : (1 : Int) ≤ m := by omega
            have hzb : ((m : Int) == 0) = false := by simp; omega
            obtain ⟨g, rfl, hg0, hg1⟩ := hO2.out.form (by omega)
            have htop : (wr.alloc (.cells #[.int .i64 5, .int .i64 y, .int .i64 z] 139)).cell? ⟨g, m - 1, none⟩ = some (.int .i64 t) :=
              (World.ownsRow.cellAt hO2.out (m - 1) (by omega)).trans (in64_top ys t (m - 1) hyl)
            have hfz : (wr.alloc (.cells #[.int .i64 5, .int .i64 y, .int .i64 z] 139)).frozen? ⟨g, m - 1, none⟩ = false := World.ownsRow.frozenAt hO2.out (m - 1)
            simp only [List.reverse_append, List.reverse_cons, List.reverse_nil, List.nil_append, List.cons_append, List.map_cons] at hF
            have HY := hide hyl
            clear hyl hmk hm0
            by_cases ht : pI t = true
            · rw [ht] at hF
              simp only [] at hF
              have HF2 := hide hF
              have ht2 : t ≠ 0 := by simpa [pI] using ht
              clear hF ht
              have hst := hide (World.ownsRow.stored hO2.out (m - 1) (.int .i64 0))
              have hv5 := kept_var2 (j := m - 1) (t := 139) (x := .int .i64 5) (y := .int .i64 y) (z := .int .i64 z) (u := .int .i64 0) HO.out
              go_wp2_with (go_at_call 115; refine (ibeg_f _ _ HBx).mono ?_; rintro e w' ⟨rfl, rfl⟩)
              go_roundw
              case rel => exact ⟨k + 1, by omega, by go_num, hide ⟨m, ys ++ [0], _, cs, rfl, by have := HY.out; simp; omega, by have := HMK.out; omega, set_row hst.out.1 HY.out, by have := HF2.out; simpa [pI] using this⟩, hide (hW2.out.setCell (p := ⟨g, _, none⟩) hg0 _)⟩
              case measure => simp [intOf]; omega
            · rw [show pI t = false by simpa using ht] at hF
              simp only [] at hF
              subst hF
              have ht2 : t = 0 := by simpa [pI] using ht
              subst ht2
              clear ht
              go_wp2_with (go_at_call 115; refine (ibeg_f _ _ HBx).mono ?_; rintro e w' ⟨rfl, rfl⟩)
              go_ret
              exact ⟨rfl, hW2.out⟩
        · rw [if_neg h5] at hF
          by_cases h11 : x = 11
          · subst h11
            rw [if_pos rfl] at hF
            by_cases hm0 : m = 0
            · subst hm0
              obtain rfl : zs = [] := List.eq_nil_of_length_eq_zero HZ.out
              simp only [List.reverse_nil, List.map_nil] at hF
              subst hF
              clear hmk
              go_wp2_with (go_at_call 115; refine (ibeg_f _ _ HBx).mono ?_; rintro e w' ⟨rfl, rfl⟩)
              go_ret
              exact ⟨rfl, hW2.out⟩
            · obtain ⟨ys, t, rfl, hyl⟩ := stack_split HZ.out hm0
              have hm1 : (1 : Int) ≤ m := by omega
              have hzb : ((m : Int) == 0) = false := by simp; omega
              have hcap : m ≤ cs := own_cap HO.out (by omega)
              simp only [List.reverse_append, List.reverse_cons, List.reverse_nil, List.nil_append, List.cons_append, List.map_cons] at hF
              have HF2 := hide hF
              have HY := hide hyl
              clear hyl hmk hm0 hF
              go_wp2_with (go_at_call 115; refine (ibeg_f _ _ HBx).mono ?_; rintro e w' ⟨rfl, rfl⟩)
              go_roundw
              case rel => exact ⟨k + 1, by omega, by go_num, hide ⟨m - 1, ys, _, cs, rfl, HY.out, by have := HMK.out; omega, less_row hO2.out hm1, HF2.out⟩, hW2⟩
              case measure => simp [intOf]; omega
          · rw [if_neg h11] at hF
            have HF2 := hide hF
            clear hF hmk
            go_wp2_with (go_at_call 115; refine (ibeg_f _ _ HBx).mono ?_; rintro e w' ⟨rfl, rfl⟩)
            go_roundw
            case rel => exact ⟨k + 1, by omega, by go_num, hide ⟨m, zs, As, cs, rfl, HZ.out, by have := HMK.out; omega, hO2.out, HF2.out⟩, hW2⟩
            case measure => simp [intOf]; omega
    · obtain rfl : k = n := by omega
      rw [List.drop_eq_nil_of_le (by have := HL.out; omega)] at hF
      simp only [shapeF] at hF
      by_cases hz : m = 0
      · subst hz
        obtain rfl : zs = [] := List.eq_nil_of_length_eq_zero HZ.out
        have hR : true = R := hF
        subst hR
        go_wp2_with fail
        go_ret
        exact ⟨rfl, HB.out⟩
      · have hR : false = R := by
          rw [← hF]
          cases zs with
          | nil => exact absurd HZ.out.symm hz
          | cons v r => simp
        subst hR
        clear hF
        have hz2 : (m : Int) ≠ 0 := by omega
        have hz3 : ((m : Int) == 0) = false := by simp; omega
        have hz4 : (m == 0) = false := by simp; omega
        go_wp2_with fail
        go_ret
        exact ⟨rfl, HB.out⟩
set_option maxRecDepth 100000 in
theorem sShapeOk (A : Option Addr) (n c : Nat) (l : List Ins3) (w : World) (hr : Rd w w.heap.size 3 A n (insC l)) (hn : n ≤ 1048576) :
    Calls Tryz.prog 119 #[.slice A n c] w fun e w' => e = .returned (.bool (shapeOk l)) ∧ Below w.heap.size w w' := by
  have hn' : (n : Int) ≤ 1048576 := by omega
  have HR := hide hr
  have HL := hide (rd_ins hr)
  have HN := hide hn
  clear hr hn
  obtain ⟨R, hR⟩ : ∃ R, shapeOk l = R := ⟨_, rfl⟩
  rw [hR]
  have HF := hide hR
  clear hR
  go_enter Tryz.func119, Tryz.ntmps119
  go_wp2_with fail
  go_loopw [3, 10] (fun s i wr => ∃ k : Nat, k ≤ n ∧ i = .int .i64 k ∧ Hid (SH pS w.heap.size k n l R s wr) ∧ Hid (Below w.heap.size w wr)) (fun _ i _ => n - (intOf i).toNat)
  case atStart => exact ⟨0, Nat.zero_le _, rfl, hide ⟨0, [], _, 0, rfl, rfl, Nat.le_refl _, own_empty _ _ _, HF.out⟩, hide ((Below.refl _ _).alloc (Nat.le_refl _) _)⟩
  case round =>
    obtain ⟨k, hk, rfl, HS, HB⟩ := hrel
    obtain ⟨m, zs, As, cs, rfl, hzl, hmk, ho, hF⟩ := HS.out
    have HO := hide ho
    have HZ := hide hzl
    have hm' : (m : Int) ≤ 1048576 := by omega
    clear ho hzl HS
    by_cases hlt : k < n
    · obtain ⟨b, off, rfl, x, y, z, hx, hc0, hc1, hc2, hbb⟩ := rd_cell (wr := wr) HR.out k hlt (fun p hp => HB.out.cell hp)
      rw [drop_get hx] at hF
      simp only [shapeF] at hF
      clear hx
      have HMK := hide hmk
      have hW := hide (show w.heap.size ≤ wr.heap.size from HB.out.size)
      have hW2 := hide (HB.out.alloc HB.out.size (.cells #[.int .i64 x, .int .i64 y, .int .i64 z] 139))
      have hO2 := hide (show Ow (wr.alloc (.cells #[.int .i64 x, .int .i64 y, .int .i64 z] 139)) w.heap.size 3 1 As m cs (in64 zs) from World.ownsRow.alloc HO.out _)
      by_cases hbg : isBeg x = true
      · rw [if_pos hbg] at hF
        have HBx := hide hbg
        have HF2 := hide hF
        have h11 : x ≠ 11 := (beg11 hbg).1
        have h5 : x ≠ 5 := (beg11 hbg).2
        clear hbg hF hmk
        go_wp2_with (first
            | (at_builtin; refine app1x rfl _ _ rfl rfl rfl (by simp) EI hO2.out rfl (one64 _) (by have := HMK.out; have := HN.out; omega) hW2.out.size ?_; intro A3 c3 w3 ho3 hg3 hl3; have hv3 := kept_var HO.out hg3)
            | (go_at_call 131; refine (sbeg_t _ _ HBx).mono ?_; rintro e w' ⟨rfl, rfl⟩))
        go_roundw
        case rel => exact ⟨k + 1, by omega, by go_num, hide ⟨m + 1, zs ++ [x], A3, c3, rfl, by simp [HZ.out], by have := HMK.out; omega, by rw [in64_app]; exact ho3, by have := HF2.out; simpa [pS] using this⟩, hide (hW2.out.grown hg3 hW2.out.size (fun g hg => (hO2.out.blk_lt g hg).1))⟩
        case measure => simp [intOf]; omega
      · rw [if_neg hbg] at hF
        have HBx := hide (show isBeg x = false by simpa using hbg)
        have h4 : x ≠ 4 := (isBeg_ne HBx.out).2.2
        clear hbg
        by_cases h5 : x = 5
        · subst h5
          rw [if_pos rfl] at hF
          by_cases hm0 : m = 0
          · subst hm0
            obtain rfl : zs = [] := List.eq_nil_of_length_eq_zero HZ.out
            simp only [List.reverse_nil, List.map_nil] at hF
            subst hF
            clear hmk
            go_wp2_with (go_at_call 131; refine (sbeg_f _ _ HBx).mono ?_; rintro e w' ⟨rfl, rfl⟩)
            go_ret
            exact ⟨rfl, hW2.out⟩
          · obtain ⟨ys, t, rfl, hyl⟩ := stack_split HZ.out hm0
            have hm1 : (1 : Int) ≤ m := by omega
            have hzb : ((m : Int) == 0) = false := by simp; omega
            obtain ⟨g, rfl, hg0, hg1⟩ := hO2.out.form (by omega)
            have htop : (wr.alloc (.cells #[.int .i64 5, .int .i64 y, .int .i64 z] 139)).cell? ⟨g, m - 1, none⟩ = some (.int .i64 t) :=
              (World.ownsRow.cellAt hO2.out (m - 1) (by omega)).trans (in64_top ys t (m - 1) hyl)
            have hfz : (wr.alloc (.cells #[.int .i64 5, .int .i64 y, .int .i64 z] 139)).frozen? ⟨g, m - 1, none⟩ = false := World.ownsRow.frozenAt hO2.out (m - 1)
            simp only [List.reverse_append, List.reverse_cons, List.reverse_nil, List.nil_append, List.cons_append, List.map_cons] at hF
            have HY := hide hyl
            clear hyl hmk hm0
            by_cases ht : pS t = true
            · rw [ht] at hF
              simp only [] at hF
              have HF2 := hide hF
              have ht2 : t = 4 := by simpa [pS] using ht
              subst ht2
              clear hF ht
              have hst := hide (World.ownsRow.stored hO2.out (m - 1) (.int .i64 5))
              have hv5 := kept_var2 (j := m - 1) (t := 139) (x := .int .i64 5) (y := .int .i64 y) (z := .int .i64 z) (u := .int .i64 5) HO.out
              go_wp2_with (go_at_call 131; refine (sbeg_f _ _ HBx).mono ?_; rintro e w' ⟨rfl, rfl⟩)
              go_roundw
              case rel => exact ⟨k + 1, by omega, by go_num, hide ⟨m, ys ++ [5], _, cs, rfl, by have := HY.out; simp; omega, by have := HMK.out; omega, set_row hst.out.1 HY.out, by have := HF2.out; simpa [pS] using this⟩, hide (hW2.out.setCell (p := ⟨g, _, none⟩) hg0 _)⟩
              case measure => simp [intOf]; omega
            · rw [show pS t = false by simpa using ht] at hF
              simp only [] at hF
              subst hF
              have ht2 : t ≠ 4 := by simpa [pS] using ht
              clear ht
              go_wp2_with (go_at_call 131; refine (sbeg_f _ _ HBx).mono ?_; rintro e w' ⟨rfl, rfl⟩)
              go_ret
              exact ⟨rfl, hW2.out⟩
        · rw [if_neg h5] at hF
          by_cases h11 : x = 11
          · subst h11
            rw [if_pos rfl] at hF
            by_cases hm0 : m = 0
            · subst hm0
              obtain rfl : zs = [] := List.eq_nil_of_length_eq_zero HZ.out
              simp only [List.reverse_nil, List.map_nil] at hF
              subst hF
              clear hmk
              go_wp2_with (go_at_call 131; refine (sbeg_f _ _ HBx).mono ?_; rintro e w' ⟨rfl, rfl⟩)
              go_ret
              exact ⟨rfl, hW2.out⟩
            · obtain ⟨ys, t, rfl, hyl⟩ := stack_split HZ.out hm0
              have hm1 : (1 : Int) ≤ m := by omega
              have hzb : ((m : Int) == 0) = false := by simp; omega
              have hcap : m ≤ cs := own_cap HO.out (by omega)
              simp only [List.reverse_append, List.reverse_cons, List.reverse_nil, List.nil_append, List.cons_append, List.map_cons] at hF
              have HF2 := hide hF
              have HY := hide hyl
              clear hyl hmk hm0 hF
              go_wp2_with (go_at_call 131; refine (sbeg_f _ _ HBx).mono ?_; rintro e w' ⟨rfl, rfl⟩)
              go_roundw
              case rel => exact ⟨k + 1, by omega, by go_num, hide ⟨m - 1, ys, _, cs, rfl, HY.out, by have := HMK.out; omega, less_row hO2.out hm1, HF2.out⟩, hW2⟩
              case measure => simp [intOf]; omega
          · rw [if_neg h11] at hF
            have HF2 := hide hF
            clear hF hmk
            go_wp2_with (go_at_call 131; refine (sbeg_f _ _ HBx).mono ?_; rintro e w' ⟨rfl, rfl⟩)
            go_roundw
            case rel => exact ⟨k + 1, by omega, by go_num, hide ⟨m, zs, As, cs, rfl, HZ.out, by have := HMK.out; omega, hO2.out, HF2.out⟩, hW2⟩
            case measure => simp [intOf]; omega
    · obtain rfl : k = n := by omega
      rw [List.drop_eq_nil_of_le (by have := HL.out; omega)] at hF
      simp only [shapeF] at hF
      by_cases hz : m = 0
      · subst hz
        obtain rfl : zs = [] := List.eq_nil_of_length_eq_zero HZ.out
        have hR : true = R := hF
        subst hR
        go_wp2_with fail
        go_ret
        exact ⟨rfl, HB.out⟩
      · have hR : false = R := by
          rw [← hF]
          cases zs with
          | nil => exact absurd HZ.out.symm hz
          | cons v r => simp
        subst hR
        clear hF
        have hz2 : (m : Int) ≠ 0 := by omega
        have hz3 : ((m : Int) == 0) = false := by simp; omega
        have hz4 : (m == 0) = false := by simp; omega
        go_wp2_with fail
        go_ret
        exact ⟨rfl, HB.out⟩
end Go.Proofs.YtiinkfejdnfonaaGreatDoor.Body
