/- Bodies: lists of instructions in memory (three cells each); the laws' own copies and comparisons of them: a contract each. -/
import Derived.Test.YtiinkfejdnfonaaGreatDoorChecked
import Derived.Test.YtiinkfejdnfonaaGreatDoorBytes
import Derived.Test.YtiinkfejdnfonaaGreatDoorNum
import Derived.Test.YtiinkfejdnfonaaGreatDoorShapeN
import Derived.WalkSpells
import Derived.Deep.QuietTactic
import Derived.BigQuiet
import Derived.Deep.RegionHeld3
import Derived.StillTailTactics
namespace Go.Proofs.YtiinkfejdnfonaaGreatDoor.Mem
open Go.RowKit Go.Proofs.YtiinkfejdnfonaaGreatDoor.Num Go.Proofs.YtiinkfejdnfonaaGreatDoor.Shape

def insC : List Ins3 → List Value
  | [] => []
  | i :: l => .int .i64 i.1 :: .int .i64 i.2.1 :: .int .i64 i.2.2 :: insC l
theorem insC_len : ∀ l : List Ins3, (insC l).length = l.length * 3
  | [] => rfl
  | i :: l => by simp [insC, insC_len l]; omega
theorem insC_get : ∀ (l : List Ins3) (k : Nat) (h : k < l.length), (insC l)[k * 3]? = some (.int .i64 l[k].1) ∧ (insC l)[k * 3 + 1]? = some (.int .i64 l[k].2.1) ∧ (insC l)[k * 3 + 2]? = some (.int .i64 l[k].2.2)
  | [], k, h => by simp at h
  | i :: l, 0, h => by simp [insC]
  | i :: l, k + 1, h => by
    have := insC_get l k (by simpa using h)
    rw [Nat.succ_mul]
    simpa [insC, Nat.add_assoc] using this
theorem insC_app : ∀ l m : List Ins3, insC (l ++ m) = insC l ++ insC m
  | [], m => rfl
  | i :: l, m => by simp [insC, insC_app l m]
theorem rd_ins {w : World} {B n : Nat} {A : Option Addr} {l : List Ins3} (h : Rd w B 3 A n (insC l)) : l.length = n := by
  have := h.1
  rw [insC_len] at this
  omega
theorem E3 : Elem Tryz.prog 82 139 (.agg #[.int .i64 0, .int .i64 0, .int .i64 0]) 3 24 := Elem.mk_ Tryz.underlying82 (by kernel_rfl) rfl (by omega) (by omega)

theorem szInsS_c (A : Option Addr) (n c : Nat) (left : Int) (w : World) (hn : n ≤ 9223372036854775807) (h0 : 0 ≤ left) (h1 : left ≤ 1048576) :
    Calls Tryz.prog 102 #[.slice A n c, .int .i64 left] w fun e w' => ((left < n ∧ e = .returned (.int .i64 (-1))) ∨ ((n : Int) ≤ left ∧ e = .returned (.int .i64 (left - n)))) ∧ w' = w := by
  have hn' : (n : Int) ≤ 9223372036854775807 := by omega
  clear hn
  by_cases h : left < n
  · have h2 : left - n < 0 := by omega
    go_enter Tryz.func102, Tryz.ntmps102
    go_wp2_with fail
    go_ret
    exact ⟨.inl ⟨h, rfl⟩, rfl⟩
  · have h2 : 0 ≤ left - n := by omega
    go_enter Tryz.func102, Tryz.ntmps102
    go_wp2_with fail
    go_ret
    refine ⟨?_, rfl⟩
    first | exact .inr rfl | exact .inr ⟨by omega, rfl⟩
theorem toIns_c (a b c : Int) (w : World) :
    Calls Tryz.prog 123 #[.agg #[.int .i64 a, .int .i64 b, .int .i64 c]] w fun e w' => e = .returned (.agg #[.int .i64 a, .int .i64 b, .int .i64 c]) ∧ Below w.heap.size w w' := by
  go_enter Tryz.func123, Tryz.ntmps123
  go_wp2_with fail
  refine bodyPost_ret (v := .agg #[.int .i64 a, .int .i64 b, .int .i64 c]) (by simp [results, Tryz.results123, go_sem]) rfl ⟨rfl, ?_⟩
  repeat (first | exact Below.refl _ _ | refine Below.setCell ?_ (by simp <;> omega) _ | refine Below.alloc ?_ (by simp <;> omega) _)
theorem eqIns_c (a b c : Int) (w : World) :
    Calls Tryz.prog 130 #[.agg #[.int .i64 a, .int .i64 b, .int .i64 c], .agg #[.int .i64 a, .int .i64 b, .int .i64 c]] w fun e w' => e = .returned (.bool true) ∧ Below w.heap.size w w' := by
  go_enter Tryz.func130, Tryz.ntmps130
  go_wp2_with fail
  go_ret
  refine ⟨rfl, ?_⟩
  repeat (first | exact Below.refl _ _ | refine Below.setCell ?_ (by simp <;> omega) _ | refine Below.alloc ?_ (by simp <;> omega) _)

theorem insC_rep_get (n j : Nat) (h : j < n * 3) : (insC (List.replicate n (0, 0, 0)))[j]? = some (.int .i64 0) := by
  obtain ⟨q0, q1, q2⟩ := insC_get (List.replicate n (0, 0, 0)) (j / 3) (by simp; omega)
  simp only [List.getElem_replicate] at q0 q1 q2
  rcases (by omega : j = j / 3 * 3 ∨ j = j / 3 * 3 + 1 ∨ j = j / 3 * 3 + 2) with e | e | e <;> rw [e] <;> assumption
theorem made3 (n : Nat) : (madeCells (Value.agg #[.int .i64 0, .int .i64 0, .int .i64 0]).cells (n * 3)).toList = insC (List.replicate n (0, 0, 0)) := by
  apply List.ext_getElem?
  intro j
  by_cases hj : j < n * 3
  · rw [insC_rep_get n j hj]
    have h3 : j % 3 < 3 := Nat.mod_lt _ (by omega)
    simp [madeCells, Value.cells, hj]
    rcases (by omega : j % 3 = 0 ∨ j % 3 = 1 ∨ j % 3 = 2) with e | e | e <;> simp [e]
  · rw [List.getElem?_eq_none (by simp [madeCells]; omega), List.getElem?_eq_none (by rw [insC_len]; simp; omega)]
theorem ins_set : ∀ (l : List Ins3) (m : List Ins3) (i z : Ins3) (k : Nat) (_ : k = l.length * 3),
    (((insC (l ++ z :: m)).set k (.int .i64 i.1)).set (k + 1) (.int .i64 i.2.1)).set (k + 2) (.int .i64 i.2.2) = insC (l ++ i :: m)
  | [], m, i, z, k, hk => by
    have : k = 0 := by simpa using hk
    subst this
    simp [insC]
  | x :: l, m, i, z, k, hk => by
    have h := ins_set l m i z (l.length * 3) rfl
    have : k = l.length * 3 + 3 := by simp only [List.length_cons] at hk; omega
    subst this
    simp only [List.cons_append, insC]
    simp only [List.set_cons_succ, Nat.add_assoc, Nat.reduceAdd]
    rw [← h]
theorem own_cell {w : World} {base e size n c g : Nat} {xs : List Value} (h : Ow w base e size (some ⟨g, 0, none⟩) n c xs) (j : Nat) (hj : j < n * size) : ∃ u, w.cell? ⟨g, j, none⟩ = some u := by
  have hx0 : w.cell? ⟨g, j, none⟩ = _ := World.ownsRow.cellAt h j hj
  rw [hx0]
  exact ⟨_, List.getElem?_eq_getElem (by have := h.1; omega)⟩
theorem toInsS_c (A : Option Addr) (n c : Nat) (l : List Ins3) (w : World) (hr : Rd w w.heap.size 3 A n (insC l)) (hn : n ≤ 1048576) :
    Calls Tryz.prog 109 #[.slice A n c] w (Fresh 139 3 n (insC l) w) := by
  have hn' : (n : Int) ≤ 1048576 := by omega
  have HR := hide hr
  have HL := hide (rd_ins hr)
  have HN := hide (show 24 * n ≤ 281474976710656 by omega)
  clear hr hn
  go_enter Tryz.func109, Tryz.ntmps109
  go_wp2_with (at_make; refine mk_full rfl _ _ rfl E3 n rfl rfl HN.out ?_; intro w1 hown hg)
  have HB := hide ((Below.refl w.heap.size w).grown hg (Nat.le_refl _) (by intro k hk; cases hk))
  rw [made3] at hown
  have HO := hide hown
  clear hown hg
  go_loopw [4] (fun i wr => ∃ k : Nat, k ≤ n ∧ i = .int .i64 k ∧ Ow wr w.heap.size 139 3 (some ⟨w.heap.size, 0, none⟩) n n (insC (l.take k ++ List.replicate (n - k) (0, 0, 0))) ∧ Below w.heap.size w wr) (fun i _ => n - (intOf i).toNat)
  case atStart => exact ⟨0, Nat.zero_le _, rfl, by simpa using HO.out, HB.out⟩
  case round =>
    obtain ⟨k, hk, rfl, hown, hb⟩ := hrel
    by_cases hlt : k < n
    · obtain ⟨b, off, rfl, hbg, hcell⟩ := HR.out.2 (by omega)
      have hl : k < l.length := by have := HL.out; omega
      obtain ⟨q0, q1, q2⟩ := insC_get l k hl
      have hc0 := (hb.cell (p := ⟨b, off + k * 3, none⟩) hbg).trans (hcell _ _ q0)
      have hc1 : wr.cell? ⟨b, off + k * 3 + 1, none⟩ = _ := (hb.cell (p := ⟨b, off + (k * 3 + 1), none⟩) hbg).trans (hcell _ _ q1)
      have hc2 : wr.cell? ⟨b, off + k * 3 + 2, none⟩ = _ := (hb.cell (p := ⟨b, off + (k * 3 + 2), none⟩) hbg).trans (hcell _ _ q2)
      obtain ⟨x, y, z, hxyz⟩ : ∃ x y z, l[k] = (x, y, z) := ⟨_, _, _, rfl⟩
      rw [hxyz] at hc0 hc1 hc2
      have H2 := hide hb
      have H3 := hide hown
      have HX := hide hxyz
      have hf0 : ∀ j, wr.frozen? ⟨w.heap.size, j, none⟩ = false := fun j => World.ownsRow.frozenAt hown j
      clear hb hown hcell hxyz q0 q1 q2
      go_wp2_with
       (go_at_call 123
        refine (toIns_c _ _ _ _).mono ?_
        rintro e w2 ⟨rfl, hbt⟩
        have H4 := hide (H3.out.below hbt (Nat.le_refl _))
        have H5 := hide (bel_step H2.out hbt H2.out.size)
        have hf0 : ∀ j, w2.frozen? ⟨w.heap.size, j, none⟩ = false := fun j => World.ownsRow.frozenAt H4.out j
        obtain ⟨u0, hu0⟩ := own_cell H4.out (k * 3) (by omega)
        obtain ⟨u1, hu1⟩ := own_cell H4.out (k * 3 + 1) (by omega)
        obtain ⟨u2, hu2⟩ := own_cell H4.out (k * 3 + 2) (by omega)
        clear hbt)
      go_roundw
      case rel =>
        refine ⟨k + 1, by omega, by go_num, ?_, ?_⟩
        · have e0 := (World.ownsRow.stored (World.ownsRow.stored (World.ownsRow.stored H4.out (k * 3) (.int .i64 x)).1 (k * 3 + 1) (.int .i64 y)).1 (k * 3 + 2) (.int .i64 z)).1
          obtain ⟨m, hm⟩ : ∃ m, n - k = m + 1 := ⟨n - k - 1, by omega⟩
          rw [hm, List.replicate_succ] at e0
          have e1 := ins_set (l.take k) (List.replicate m (0, 0, 0)) (x, y, z) (0, 0, 0) (k * 3) (by simp; omega)
          simp only [] at e1
          rw [e1] at e0
          have e2 : l.take (k + 1) ++ List.replicate (n - (k + 1)) (0, 0, 0) = l.take k ++ (x, y, z) :: List.replicate m (0, 0, 0) := by
            rw [List.take_succ_eq_append_getElem hl, HX.out, show n - (k + 1) = m from by omega]
            simp
          rw [e2]
          exact e0
        · exact ((H5.out.setCell (p := ⟨w.heap.size, _, none⟩) (Nat.le_refl _) _).setCell (p := ⟨w.heap.size, _, none⟩) (Nat.le_refl _) _).setCell (p := ⟨w.heap.size, _, none⟩) (Nat.le_refl _) _
      case measure => simp [intOf]; omega
    · obtain rfl : k = n := by omega
      go_wp2_with fail
      go_ret
      refine ⟨_, _, rfl, ?_, hb⟩
      have := HL.out
      rw [Nat.sub_self, List.take_of_length_le (by omega)] at hown
      simpa using hown
set_option maxRecDepth 100000 in
theorem eqInsS_b (A B : Option Addr) (n c d : Nat) (l : List Ins3) (w : World) (ha : Rd w w.heap.size 3 A n (insC l)) (hb : Rd w w.heap.size 3 B n (insC l)) (hn : n ≤ 2097152) :
    Calls Tryz.prog 118 #[.slice A n c, .slice B n d] w fun e w' => e = .returned (.bool true) ∧ Below w.heap.size w w' := by
  have hn' : (n : Int) ≤ 2097152 := by omega
  have HA := hide ha
  have HB := hide hb
  have HL := hide (rd_ins ha)
  clear ha hb hn
  go_enter Tryz.func118, Tryz.ntmps118
  go_wp2_with fail
  go_loopw [5] (fun i wr => ∃ k : Nat, k ≤ n ∧ i = .int .i64 k ∧ Below w.heap.size w wr) (fun i _ => n - (intOf i).toNat)
  case atStart => exact ⟨0, Nat.zero_le _, rfl, Below.refl _ _⟩
  case round =>
    obtain ⟨k, hk, rfl, hb⟩ := hrel
    by_cases hlt : k < n
    · obtain ⟨b, off, rfl, hb1, hc⟩ := HA.out.2 (by omega)
      obtain ⟨b', off', rfl, hb2, hc'⟩ := HB.out.2 (by omega)
      have hl : k < l.length := by have := HL.out; omega
      obtain ⟨q0, q1, q2⟩ := insC_get l k hl
      have hc0 := (hb.cell (p := ⟨b, off + k * 3, none⟩) hb1).trans (hc _ _ q0)
      have hc1 : wr.cell? ⟨b, off + k * 3 + 1, none⟩ = _ := (hb.cell (p := ⟨b, off + (k * 3 + 1), none⟩) hb1).trans (hc _ _ q1)
      have hc2 : wr.cell? ⟨b, off + k * 3 + 2, none⟩ = _ := (hb.cell (p := ⟨b, off + (k * 3 + 2), none⟩) hb1).trans (hc _ _ q2)
      have hd0 := (hb.cell (p := ⟨b', off' + k * 3, none⟩) hb2).trans (hc' _ _ q0)
      have hd1 : wr.cell? ⟨b', off' + k * 3 + 1, none⟩ = _ := (hb.cell (p := ⟨b', off' + (k * 3 + 1), none⟩) hb2).trans (hc' _ _ q1)
      have hd2 : wr.cell? ⟨b', off' + k * 3 + 2, none⟩ = _ := (hb.cell (p := ⟨b', off' + (k * 3 + 2), none⟩) hb2).trans (hc' _ _ q2)
      obtain ⟨x, y, z, hxyz⟩ : ∃ x y z, l[k] = (x, y, z) := ⟨_, _, _, rfl⟩
      rw [hxyz] at hc0 hc1 hc2 hd0 hd1 hd2
      have H2 := hide hb
      clear hb hc hc' hxyz q0 q1 q2
      go_wp2_with fail
      go_still_tail 8, (by kernel_rfl)
      go_wp2_with
       (go_at_call 130
        refine (eqIns_c _ _ _ _).mono ?_
        rintro e w2 ⟨rfl, hbt⟩)
      go_roundw
      case rel => exact ⟨k + 1, by omega, by go_num, bel_step H2.out ⟨hbt.os, hbt.tape, hbt.output, hbt.size, hbt.block⟩ H2.out.size⟩
      case measure => simp [intOf]; omega
    · obtain rfl : k = n := by omega
      go_wp2_with fail
      go_ret
      exact ⟨rfl, hb⟩
theorem eqInsS_c (A B : Option Addr) (n c d : Nat) (l : List Ins3) (w : World) (ha : Rd w w.heap.size 3 A n (insC l)) (hb : Rd w w.heap.size 3 B n (insC l)) (hn : n ≤ 1048576) :
    Calls Tryz.prog 118 #[.slice A n c, .slice B n d] w fun e w' => e = .returned (.bool true) ∧ Below w.heap.size w w' :=
  eqInsS_b A B n c d l w ha hb (by omega)
end Go.Proofs.YtiinkfejdnfonaaGreatDoor.Mem
