/- The laws' marks on bodies: a contract each, with what they write. -/
import Derived.Test.YtiinkfejdnfonaaDoorIns
namespace Go.Proofs.YtiinkfejdnfonaaDoor.Mem
open Go.RowKit Go.Proofs.YtiinkfejdnfonaaDoor.Num Go.Proofs.YtiinkfejdnfonaaDoor.Shape
set_option linter.unusedVariables false
/-- the marks k, k + 1, .., three an instruction -/
def marks3 (k : Int) (n : Nat) : List Ins3 := (List.range n).map fun j : Nat => (k + 3 * (j : Int), k + 3 * (j : Int) + 1, k + 3 * (j : Int) + 1 + 1)
theorem marks3_len (k : Int) (n : Nat) : (marks3 k n).length = n := by simp [marks3]
theorem marks3_get (k : Int) (n j : Nat) (h : j < (marks3 k n).length) : (marks3 k n)[j] = (k + 3 * (j : Int), k + 3 * (j : Int) + 1, k + 3 * (j : Int) + 1 + 1) := by simp [marks3]
theorem marks3_succ (k : Int) (n : Nat) : marks3 k (n + 1) = marks3 k n ++ [(k + 3 * (n : Int), k + 3 * (n : Int) + 1, k + 3 * (n : Int) + 1 + 1)] := by simp [marks3, List.range_succ]
set_option maxRecDepth 100000 in
theorem markInsS_m (A : Option Addr) (n c base : Nat) (l : List Ins3) (k : Int) (w : World) (ho : Ow w base 61 3 A n c (insC l)) (hn : n ≤ 2097152) (h0 : 0 ≤ k) (h1 : k ≤ 281474976710655) :
    Calls Tryd.prog 14 #[.slice A n c, .int .i64 k] w fun e w' => e = .returned (.int .i64 (k + 3 * n)) ∧ Ow w' base 61 3 A n c (insC (marks3 k n)) ∧ w.grownBy w' (blk A) := by
  have hn' : (n : Int) ≤ 2097152 := by omega
  have HL := hide (show l.length = n by have := ho.1; rw [insC_len] at this; omega)
  have HO := hide ho
  clear ho hn
  go_enter Tryd.func14, Tryd.ntmps14
  go_wp2_with fail
  go_loopw [1, 5] (fun s i wr => ∃ (j : Nat), j ≤ n ∧ i = .int .i64 j ∧ s = .int .i64 (k + 3 * j) ∧ Hid (Ow wr base 61 3 A n c (insC (marks3 k j ++ l.drop j))) ∧ Hid (w.grownBy wr (blk A))) (fun _ i _ => n - (intOf i).toNat)
  case atStart => exact ⟨0, Nat.zero_le _, rfl, by go_num, hide (by simpa [marks3] using HO.out), hide (World.grownBy.refl _ _)⟩
  case round =>
    obtain ⟨j, hj, rfl, rfl, H3, HG⟩ := hrel
    by_cases hlt : j < n
    · obtain ⟨g, rfl, _, _⟩ := H3.out.form (by omega)
      have hj0 : (0 : Int) ≤ j := by omega
      have hj1 : (j : Int) < n := by omega
      have e0 := World.ownsRow.stored H3.out (j * 3) (.int .i64 (k + 3 * j))
      have e1 := World.ownsRow.stored e0.1 (j * 3 + 1) (.int .i64 (k + 3 * j + 1))
      have e2 := World.ownsRow.stored e1.1 (j * 3 + 2) (.int .i64 (k + 3 * j + 1 + 1))
      have hf0 : ∀ q, wr.frozen? ⟨g, q, none⟩ = false := fun q => World.ownsRow.frozenAt H3.out q
      obtain ⟨u0, hu0⟩ := own_cell H3.out (j * 3) (by omega)
      obtain ⟨u1, hu1⟩ := own_cell H3.out (j * 3 + 1) (by omega)
      obtain ⟨u2, hu2⟩ := own_cell H3.out (j * 3 + 2) (by omega)
      have HG2 := hide (grown_trans (grown_trans e0.2 e1.2) e2.2)
      have HE := e2.1
      obtain ⟨z, hz⟩ : ∃ z, l.drop j = z :: l.drop (j + 1) := ⟨_, List.drop_eq_getElem_cons (by have := HL.out; omega)⟩
      rw [hz] at HE
      have hs := ins_set (marks3 k j) (l.drop (j + 1)) (k + 3 * j, k + 3 * j + 1, k + 3 * j + 1 + 1) z (j * 3) (by rw [marks3_len])
      simp only [] at hs
      rw [hs, show marks3 k j ++ (k + 3 * (j : Int), k + 3 * (j : Int) + 1, k + 3 * (j : Int) + 1 + 1) :: l.drop (j + 1) = marks3 k (j + 1) ++ l.drop (j + 1) by rw [marks3_succ]; simp] at HE
      have HE := hide HE
      clear e0 e1 e2 hs hz
      go_wp2_with fail
      go_roundw
      case rel =>
        refine ⟨j + 1, by omega, by go_num, ?_, HE, hide (grown_trans HG.out HG2.out)⟩
        congr 1
        push_cast
        omega
      case measure => simp [intOf]; omega
    · obtain rfl : j = n := by omega
      have H4 := hide (show Ow wr base 61 3 A j c (insC (marks3 k j)) by have h := H3.out; rwa [List.drop_of_length_le (by have := HL.out; omega), List.append_nil] at h)
      go_wp2_with fail
      go_ret
      exact ⟨rfl, H4.out, HG.out⟩
set_option maxRecDepth 100000 in
theorem heldInsS_c (A : Option Addr) (n c : Nat) (k : Int) (w : World) (hr : Rd w w.heap.size 3 A n (insC (marks3 k n))) (hn : n ≤ 2097152) (h0 : 0 ≤ k) (h1 : k ≤ 281474976710655) :
    Calls Tryd.prog 15 #[.slice A n c, .int .i64 k] w fun e w' => e = .returned (.int .i64 (k + 3 * n)) ∧ w = w' := by
  have hn' : (n : Int) ≤ 2097152 := by omega
  have HR := hide hr
  clear hr hn
  go_enter Tryd.func15, Tryd.ntmps15
  go_wp2_with fail
  go_loop [1, 5] (fun s i => ∃ j : Nat, j ≤ n ∧ i = .int .i64 j ∧ s = .int .i64 (k + 3 * j)) (fun _ i => n - (intOf i).toNat)
  case atStart => exact ⟨0, Nat.zero_le _, rfl, by go_num⟩
  case round =>
    obtain ⟨j, hj, rfl, rfl⟩ := hrel
    by_cases hlt : j < n
    · obtain ⟨b, off, rfl, _, hc⟩ := HR.out.2 (by omega)
      have hl : j < (marks3 k n).length := by rw [marks3_len]; exact hlt
      have hj0 : (0 : Int) ≤ j := by omega
      have hj1 : (j : Int) < n := by omega
      obtain ⟨q0, q1, q2⟩ := insC_get (marks3 k n) j hl
      rw [marks3_get] at q0 q1 q2
      have hc0 := hc _ _ q0
      have hc1 : w.cell? ⟨b, off + j * 3 + 1, none⟩ = _ := hc _ _ q1
      have hc2 : w.cell? ⟨b, off + j * 3 + 2, none⟩ = _ := hc _ _ q2
      clear hc q0 q1 q2
      go_wp2_with fail
      go_round
      case rel => exact ⟨j + 1, by omega, by go_num, by congr 1; push_cast; omega⟩
      case measure => simp [intOf]; omega
    · obtain rfl : j = n := by omega
      go_wp2_with fail
      go_ret
      exact ⟨rfl, rfl⟩
end Go.Proofs.YtiinkfejdnfonaaDoor.Mem
