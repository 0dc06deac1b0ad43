/- What the reference's OpName hands back: a contract; its tables. -/
import Derived.Test.YtbedkcedooemdaaInts
import Derived.Test.YtbedkcedooemdaaOpN
namespace Go.Proofs.Ytbedkcedooemdaa.Ops
open Go.RowKit Go.Proofs.Ytbedkcedooemdaa.Num Go.Proofs.Ytbedkcedooemdaa.Mem
set_option linter.unusedVariables false

def strC (l : List ByteArray) : List Value := l.map Value.string
theorem get_str {w wr : World} {B n : Nat} {A : Option Addr} {l : List ByteArray} (h : Rd w B 1 A n (strC l)) (k : Nat) (hk : k < n) (hc : ∀ p : Addr, p.block < B → wr.cell? p = w.cell? p) :
    ∃ b off, A = some ⟨b, off, none⟩ ∧ ∃ x, l[k]? = some x ∧ wr.cell? ⟨b, off + k, none⟩ = some (.string x) ∧ b < B := by
  obtain ⟨b, off, rfl, hb, hcell⟩ := h.2 (by omega)
  have hl : k < l.length := by have := h.1; simp only [strC, List.length_map] at this; omega
  exact ⟨b, off, rfl, l[k], List.getElem?_eq_getElem hl, (hc _ hb).trans (hcell _ _ (by simp [strC, hl])), hb⟩
theorem str_add (a b : ByteArray) (h : a.size + b.size ≤ 100000) : ∀ w : World, (Op.stringOp .add a b).run Try.prog w = .ok (.string (a ++ b)) w := by
  intro w
  have h2 : ¬ (((a.size + b.size : Nat) : Int) > IntKind.i64.max) := by
    have : IntKind.i64.max = 9223372036854775807 := by decide
    omega
  simp only [Op.stringOp, h2, if_false]
  rfl
theorem i32_size : i32.size = 4 := rfl

theorem l03Ops_c (w : World) : Calls Try.prog 23 #[] w (Fresh 3 1 24 (in64 ops1) w) := by
  go_enter Try.func23, Try.ntmps23
  go_wp2_with fail
  go_ret
  exact ⟨_, _, rfl, World.ownsRow_lit w _ 24 (Nat.le_refl _) (by decide) rfl, (Below.refl _ _).alloc (Nat.le_refl _) _⟩
end Go.Proofs.Ytbedkcedooemdaa.Ops
