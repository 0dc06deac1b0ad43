/- What is told of an operation, and right instructions: a contract each, in the program and in the reference. -/
import Derived.Test.YtbedkcedooemdaaOpI
import Derived.Test.YtbedkcedooemdaaNumC
import Derived.Test.YtbedkcedooemdaaKindN
import Derived.Test.YtbedkcedooemdaaBody
import Derived.Test.YtbedkcedooemdaaShapeC
namespace Go.Proofs.Ytbedkcedooemdaa.Ops
open Go.RowKit Go.Proofs.Ytbedkcedooemdaa.Num Go.Proofs.Ytbedkcedooemdaa.NumC Go.Proofs.Ytbedkcedooemdaa.Mem Go.Proofs.Ytbedkcedooemdaa.Shape Go.Proofs.Ytbedkcedooemdaa.Body
set_option linter.unusedVariables false

theorem skind_c (op : Int) (w : World) : Calls Try.prog 21 #[.int .i64 op] w fun e w' => e = .returned (.int .i64 (kind op)) ∧ w = w' := by
  rcases (by omega : (op ≠ 2 ∧ op ≠ 3 ∧ op ≠ 4 ∧ op ≠ 12 ∧ op ≠ 13 ∧ op ≠ 16 ∧ op ≠ 32 ∧ op ≠ 33 ∧ op ≠ 34 ∧ op ≠ 35 ∧ op ≠ 36 ∧ op ≠ 40 ∧ op ≠ 54 ∧ op ≠ 65) ∨ op = 2 ∨ op = 3 ∨ op = 4 ∨ op = 12 ∨ op = 13 ∨ op = 16 ∨ op = 32 ∨ op = 33 ∨ op = 34 ∨ op = 35 ∨ op = 36 ∨ op = 40 ∨ op = 54 ∨ op = 65) with ⟨h1, h2, h3, h4, h5, h6, h7, h8, h9, h10, h11, h12, h13, h14⟩ | rfl | rfl | rfl | rfl | rfl | rfl | rfl | rfl | rfl | rfl | rfl | rfl | rfl | rfl
  case _ =>
    have hk : kind op = 0 := by
      refine kind_none ?_ ?_ ?_ h14
      · simp [isBeg, h1, h2, h3]
      · simp only [isIdx, Bool.or_eq_false_iff, beq_eq_false_iff_ne, ne_eq, Bool.and_eq_false_iff, decide_eq_false_iff_not]; omega
      · simp [isMem, h12, h13]
    rw [hk]
    clear hk
    go_enter Try.func21, Try.ntmps21
    go_wp2_with fail
    go_ret
    exact ⟨rfl, rfl⟩
  all_goals
    go_enter Try.func21, Try.ntmps21
    go_wp2_with fail
    go_ret
    exact ⟨rfl, rfl⟩
/-- what an instruction's own variable holds, kept over a call -/
theorem ks {w W W' : World} {v : Value} (h : W.cell? ⟨w.heap.size, 0, none⟩ = some v ∧ Below w.heap.size w W) (hb : Below W.heap.size W W') : W'.cell? ⟨w.heap.size, 0, none⟩ = some v ∧ Below w.heap.size w W' :=
  ⟨(hb.cell (World.block_lt_of_cell? W _ h.1)).trans h.1, bel_step h.2 hb h.2.size⟩
/-- what an instruction's own variable holds: all three -/
def Var3 (w : World) (op a b : Int) (W : World) : Prop := W.cell? ⟨w.heap.size, 0, none⟩ = some (.int .i64 op) ∧ W.cell? ⟨w.heap.size, 1, none⟩ = some (.int .i64 a) ∧ W.cell? ⟨w.heap.size, 2, none⟩ = some (.int .i64 b) ∧ Below w.heap.size w W
theorem var3_new (w : World) (op a b : Int) (t : TypeId) : Var3 w op a b (w.alloc (.cells #[.int .i64 op, .int .i64 a, .int .i64 b] t)) :=
  ⟨by simp, by simp, by simp, (Below.refl _ _).alloc (Nat.le_refl _) _⟩
theorem var3_bel {w W W' : World} {op a b : Int} (h : Var3 w op a b W) (hb : Below W.heap.size W W') : Var3 w op a b W' := by
  obtain ⟨h0, h1, h2, h3⟩ := h
  have hl : w.heap.size < W.heap.size := World.block_lt_of_cell? W _ h0
  exact ⟨(hb.cell (p := ⟨w.heap.size, 0, none⟩) hl).trans h0, (hb.cell (p := ⟨w.heap.size, 1, none⟩) hl).trans h1, (hb.cell (p := ⟨w.heap.size, 2, none⟩) hl).trans h2, bel_step h3 hb h3.size⟩
theorem var3_drewN {w W : World} {op a b : Int} (h : Var3 w op a b W) (k : Nat) : Var3 w op a b (W.drewN k) := ⟨h.1, h.2.1, h.2.2.1, bel_drewN h.2.2.2 k⟩
end Go.Proofs.Ytbedkcedooemdaa.Ops
