/- The laws' own helpers on slices of bytes: copies, comparisons, marks: a contract each. -/
import Derived.Test.YtiinkfejdnfonaaGreatDoorChecked
import Derived.Test.YtiinkfejdnfonaaGreatDoorApp
import Derived.Test.YtiinkfejdnfonaaGreatDoorNum
import Derived.WalkSpells
import Derived.Deep.QuietTactic
import Derived.BigQuiet
namespace Go.Proofs.YtiinkfejdnfonaaGreatDoor.Mem
open Go.RowKit Go.Proofs.YtiinkfejdnfonaaGreatDoor.Num

theorem E8 : Elem Tryz.prog 31 5 (.int .u8 0) 1 1 := Elem.mk_ Tryz.underlying31 (by kernel_rfl) rfl (by omega) (by omega)

/-- a new slice that the call made, with the cells xs -/
def Fresh (e size n : Nat) (xs : List Value) (w : World) (en : Ending) (w' : World) : Prop :=
  ∃ A c, en = .returned (.slice A n c) ∧ Ow w' w.heap.size e size A n c xs ∧ Below w.heap.size w w'

theorem made8 (n : Nat) : (madeCells (Value.int .u8 0).cells (n * 1)).toList = List.replicate n (.int .u8 0) := by rw [Nat.mul_one]; exact toList_madeCells_one _ _
theorem set_step {α : Type} (xs : List α) (z : α) (n k : Nat) (h : xs.length = n) (hk : k < n) : (xs.take k ++ List.replicate (n - k) z).set k (xs[k]'(by omega)) = xs.take (k + 1) ++ List.replicate (n - (k + 1)) z := by
  obtain ⟨m, hm⟩ : ∃ m, n - k = m + 1 := ⟨n - k - 1, by omega⟩
  have hl : (xs.take k).length = k := by simp; omega
  rw [List.set_append, if_neg (by omega), hl, Nat.sub_self, hm, List.replicate_succ, List.set_cons_zero, show n - (k + 1) = m from by omega]
  have h5 : xs.take (k + 1) = xs.take k ++ [xs[k]'(by omega)] := List.take_succ_eq_append_getElem (by omega)
  rw [h5, List.append_assoc]
  rfl

theorem toByteS_c (A : Option Addr) (n c : Nat) (bs : List Int) (w : World) (hr : Rd w w.heap.size 1 A n (by8 bs)) (hn : n ≤ 281474976710655) :
    Calls Tryz.prog 110 #[.slice A n c] w (Fresh 5 1 n (by8 bs) w) := by
  have hn' : (n : Int) ≤ 281474976710655 := by omega
  have HR := hide hr
  have hlen : (by8 bs).length = n := by have := hr.1; omega
  have HL := hide hlen
  clear hr hlen hn
  have HN := hide (show 1 * n ≤ 281474976710656 by omega)
  go_enter Tryz.func110, Tryz.ntmps110
  go_wp2_with (at_make; refine mk_full rfl _ _ rfl E8 n rfl rfl HN.out ?_; intro w1 hown hg)
  have HB := hide ((Below.refl w.heap.size w).grown hg (Nat.le_refl _) (by intro k hk; cases hk))
  rw [made8] at hown
  have HO := hide hown
  clear hown hg
  go_loopw [4] (fun i wr => ∃ k : Nat, k ≤ n ∧ i = .int .i64 k ∧ Ow wr w.heap.size 5 1 (some ⟨w.heap.size, 0, none⟩) n n ((by8 bs).take k ++ List.replicate (n - k) (.int .u8 0)) ∧ Below w.heap.size w wr) (fun i _ => n - (intOf i).toNat)
  case atStart => exact ⟨0, Nat.zero_le _, rfl, by simpa using HO.out, HB.out⟩
  case round =>
    obtain ⟨k, hk, rfl, hown, hb⟩ := hrel
    by_cases hlt : k < n
    · obtain ⟨b, off, rfl, hbg, hcell⟩ := HR.out.2 (by omega)
      have hl : k < bs.length := by have := HL.out; simp only [by8, List.length_map] at this; omega
      have hc := (hb.cell (p := ⟨b, off + k, none⟩) hbg).trans (hcell k _ (by8_get hl))
      have hst := World.ownsRow.stored hown k (.int .u8 (bs[k]'hl))
      have hx0 : wr.cell? ⟨w.heap.size, k, none⟩ = _ := World.ownsRow.cellAt hown k (by omega)
      have hf0 : wr.frozen? ⟨w.heap.size, k, none⟩ = false := World.ownsRow.frozenAt hown k
      obtain ⟨u, hu⟩ : ∃ u, wr.cell? ⟨w.heap.size, k, none⟩ = some u := by
        rw [hx0]
        exact ⟨_, List.getElem?_eq_getElem (by have := hown.1; omega)⟩
      clear hx0
      have H1 := hide hst
      have H2 := hide hb
      have H3 := hide hown
      obtain ⟨v, hv⟩ : ∃ v, bs[k]'hl = v := ⟨_, rfl⟩
      have HV := hide hv
      rw [hv] at hc H1
      clear hst hb hown hcell hv
      go_wp2_with fail
      go_roundw
      case rel =>
        refine ⟨k + 1, by omega, by go_num, ?_, H2.out.setCell (p := ⟨w.heap.size, k, none⟩) (Nat.le_refl _) _⟩
        have h4 := H1.out.1
        have h5 := set_step (by8 bs) (.int .u8 0) n k HL.out hlt
        have h6 : (by8 bs)[k]'(by have := HL.out; omega) = .int .u8 v := by simp only [by8, List.getElem_map]; rw [HV.out]
        rw [h6] at h5
        rw [h5] at h4
        exact h4
      case measure => simp [intOf]; omega
    · obtain rfl : k = n := by omega
      go_wp2_with fail
      go_ret
      refine ⟨_, _, rfl, ?_, hb⟩
      have := HL.out
      rw [Nat.sub_self, List.take_of_length_le (by omega)] at hown
      simpa using hown
theorem eqByteS_c (A B : Option Addr) (n c d : Nat) (bs : List Int) (w : World) (ha : Rd w w.heap.size 1 A n (by8 bs)) (hb : Rd w w.heap.size 1 B n (by8 bs)) (hn : n ≤ 281474976710655) :
    Calls Tryz.prog 9 #[.slice A n c, .slice B n d] w fun e w' => e = .returned (.bool true) ∧ ∃ m, w' = w.drewN m := by
  have hn' : (n : Int) ≤ 281474976710655 := by omega
  have HA := hide ha
  have HB := hide hb
  clear ha hb hn
  go_enter Tryz.func9, Tryz.ntmps9
  go_wp2_with fail
  go_loopw [5] (fun i wr => ∃ k : Nat, k ≤ n ∧ i = .int .i64 k ∧ ∃ m, wr = w.drewN m) (fun i _ => n - (intOf i).toNat)
  case atStart => exact ⟨0, Nat.zero_le _, rfl, 0, rfl⟩
  case round =>
    obtain ⟨k, hk, rfl, m, rfl⟩ := hrel
    by_cases hlt : k < n
    · obtain ⟨b, off, rfl, _, hc⟩ := HA.out.2 (by omega)
      obtain ⟨b', off', rfl, _, hc'⟩ := HB.out.2 (by omega)
      have hl : k < bs.length := by have := HA.out.1; simp only [by8, List.length_map] at this; omega
      have h1 := hc k _ (by8_get hl)
      have h2 := hc' k _ (by8_get hl)
      have hi0 : (k : Int) < (n : Int) := by omega
      have hi1 : (0 : Int) ≤ (k : Int) := by omega
      obtain ⟨v, hv⟩ : ∃ v, bs[k]'hl = v := ⟨_, rfl⟩
      rw [hv] at h1 h2
      clear hv hc hc'
      go_wp2_with fail
      go_quiet (fail)
      go_wp2_with fail
      go_roundw
      case rel => exact ⟨k + 1, by omega, by go_num, _, rfl⟩
      case measure => simp [intOf]; omega
    · obtain rfl : k = n := by omega
      go_wp2_with fail
      go_ret
      exact ⟨rfl, _, rfl⟩

/-- the marks k, k + 1, .. -/
def marks (k : Int) (n : Nat) : List Int := (List.range n).map fun j : Nat => (k + (j : Int)) % 256
theorem marks_len (k : Int) (n : Nat) : (marks k n).length = n := by simp [marks]
theorem marks_succ (k : Int) (n : Nat) : marks k (n + 1) = marks k n ++ [(k + (n : Int)) % 256] := by simp [marks, List.range_succ]
theorem mark_step (k : Int) (j n : Nat) (xs : List Value) (h : xs.length = n) (hj : j < n) : (by8 (marks k j) ++ xs.drop j).set j (.int .u8 ((k + (j : Int)) % 256)) = by8 (marks k (j + 1)) ++ xs.drop (j + 1) := by
  have hl : (by8 (marks k j)).length = j := by simp [by8, marks_len]
  rw [List.set_append, if_neg (by omega), hl, Nat.sub_self, List.drop_eq_getElem_cons (by omega), List.set_cons_zero, marks_succ]
  simp [by8]
theorem marks_get (k : Int) (n j : Nat) (h : j < (marks k n).length) : (marks k n)[j] = (k + j) % 256 := by simp [marks]

theorem markByteS_c (A : Option Addr) (n c base : Nat) (xs : List Value) (k : Int) (w : World) (ho : Ow w base 5 1 A n c xs) (hn : n ≤ 281474976710655) (h0 : 0 ≤ k) (h1 : k ≤ 281474976710655) :
    Calls Tryz.prog 12 #[.slice A n c, .int .i64 k] w fun e w' => e = .returned (.int .i64 (k + n)) ∧ Ow w' base 5 1 A n c (by8 (marks k n)) ∧ w.grownBy w' (blk A) := by
  have hn' : (n : Int) ≤ 281474976710655 := by omega
  have HO := hide ho
  clear ho hn
  have HL := hide (show xs.length = n by have := HO.out.1; omega)
  go_enter Tryz.func12, Tryz.ntmps12
  go_wp2_with fail
  go_loopw [1, 5] (fun s i wr => ∃ j : Nat, j ≤ n ∧ i = .int .i64 j ∧ s = .int .i64 (k + j) ∧ Ow wr base 5 1 A n c (by8 (marks k j) ++ xs.drop j) ∧ w.grownBy wr (blk A)) (fun _ i _ => n - (intOf i).toNat)
  case atStart => exact ⟨0, Nat.zero_le _, rfl, by go_num, by simpa [marks, by8] using HO.out, World.grownBy.refl _ _⟩
  case round =>
    obtain ⟨j, hj, rfl, rfl, hown, hg⟩ := hrel
    have H3 := hide hown
    have H2 := hide hg
    clear hown hg
    by_cases hlt : j < n
    · obtain ⟨g, rfl, _, _⟩ := H3.out.form (by omega)
      have hst := World.ownsRow.stored H3.out j (.int .u8 ((k + (j : Int)) % 256))
      have hf0 : wr.frozen? ⟨g, j, none⟩ = false := World.ownsRow.frozenAt H3.out j
      obtain ⟨u, hu⟩ : ∃ u, wr.cell? ⟨g, j, none⟩ = some u := by
        have hx0 : wr.cell? ⟨g, j, none⟩ = _ := World.ownsRow.cellAt H3.out j (by omega)
        rw [hx0]
        exact ⟨_, List.getElem?_eq_getElem (by have := H3.out.1; omega)⟩
      have H1 := hide hst
      clear hst
      go_wp2_with fail
      go_roundw
      case rel =>
        refine ⟨j + 1, by omega, by go_num, by go_num, ?_, grown_trans H2.out H1.out.2⟩
        have h4 := H1.out.1
        rw [mark_step k j n xs HL.out hlt] at h4
        exact h4
      case measure => simp [intOf]; omega
    · obtain rfl : j = n := by omega
      go_wp2_with fail
      go_ret
      refine ⟨rfl, ?_, H2.out⟩
      have h5 := H3.out
      have h6 := HL.out
      rw [List.drop_of_length_le (by omega), List.append_nil] at h5
      exact h5
theorem heldByteS_c (A : Option Addr) (n c : Nat) (k : Int) (w : World) (hr : Rd w w.heap.size 1 A n (by8 (marks k n))) (hn : n ≤ 281474976710655) (h0 : 0 ≤ k) (h1 : k ≤ 281474976710655) :
    Calls Tryz.prog 13 #[.slice A n c, .int .i64 k] w fun e w' => e = .returned (.int .i64 (k + n)) ∧ w = w' := by
  have hn' : (n : Int) ≤ 281474976710655 := by omega
  have HR := hide hr
  clear hr hn
  go_enter Tryz.func13, Tryz.ntmps13
  go_wp2_with fail
  go_loop [1, 5] (fun s i => ∃ j : Nat, j ≤ n ∧ i = .int .i64 j ∧ s = .int .i64 (k + j)) (fun _ i => n - (intOf i).toNat)
  case atStart => exact ⟨0, Nat.zero_le _, rfl, by go_num⟩
  case round =>
    obtain ⟨j, hj, rfl, rfl⟩ := hrel
    by_cases hlt : j < n
    · obtain ⟨b, off, rfl, _, hc⟩ := HR.out.2 (by omega)
      have hl : j < (marks k n).length := by rw [marks_len]; exact hlt
      have h2 := hc j _ (by8_get hl)
      rw [marks_get] at h2
      clear hc
      go_wp2_with fail
      go_round
      case rel => exact ⟨j + 1, by omega, by go_num, by go_num⟩
      case measure => simp [intOf]; omega
    · obtain rfl : j = n := by omega
      go_wp2_with fail
      go_ret
      exact ⟨rfl, rfl⟩
end Go.Proofs.YtiinkfejdnfonaaGreatDoor.Mem
