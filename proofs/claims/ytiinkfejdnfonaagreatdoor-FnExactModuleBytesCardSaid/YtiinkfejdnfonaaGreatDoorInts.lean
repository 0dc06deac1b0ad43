/- The laws' own helpers on slices of numbers: sizes, copies, comparisons: a contract each; the library's Equal on them. -/
import Derived.Test.YtiinkfejdnfonaaGreatDoorBytes
namespace Go.Proofs.YtiinkfejdnfonaaGreatDoor.Mem
open Go.RowKit Go.Proofs.YtiinkfejdnfonaaGreatDoor.Num
set_option linter.unusedVariables false

theorem EI64 : Elem Tryz.prog 146 3 (.int .i64 0) 1 8 := Elem.mk_ Tryz.underlying146 (by kernel_rfl) rfl (by omega) (by omega)
theorem made64 (n : Nat) : (madeCells (Value.int .i64 0).cells (n * 1)).toList = List.replicate n (.int .i64 0) := by rw [Nat.mul_one]; exact toList_madeCells_one _ _
theorem rd_in64 {w : World} {B n : Nat} {A : Option Addr} {l : List Int} (h : Rd w B 1 A n (in64 l)) : l.length = n := by
  have := h.1
  simp only [in64, List.length_map] at this
  omega


theorem get_in64 {w wr : World} {B n : Nat} {A : Option Addr} {l : List Int} (h : Rd w B 1 A n (in64 l)) (k : Nat) (hk : k < n) (hc : ∀ p : Addr, p.block < B → wr.cell? p = w.cell? p) :
    ∃ b off, A = some ⟨b, off, none⟩ ∧ ∃ x, l[k]? = some x ∧ wr.cell? ⟨b, off + k, none⟩ = some (.int .i64 x) ∧ b < B := by
  obtain ⟨b, off, rfl, hb, hcell⟩ := h.2 (by omega)
  have hl : k < l.length := by have := rd_in64 h; omega
  exact ⟨b, off, rfl, l[k], List.getElem?_eq_getElem hl, (hc _ hb).trans (hcell _ _ (in64_get hl)), hb⟩
theorem list_eq {xs ys : List Int} {n : Nat} (hx : xs.length = n) (hy : ys.length = n) (h : ∀ j, j < n → xs[j]? = ys[j]?) : xs = ys := by
  apply List.ext_getElem?
  intro j
  by_cases hj : j < n
  · exact h j hj
  · rw [List.getElem?_eq_none (by omega), List.getElem?_eq_none (by omega)]
theorem list_ne {xs ys : List Int} {k : Nat} {x y : Int} (hx : xs[k]? = some x) (hy : ys[k]? = some y) (h : x ≠ y) : xs ≠ ys := by
  intro e
  subst e
  rw [hx] at hy
  injection hy with hy
  exact h hy
end Go.Proofs.YtiinkfejdnfonaaGreatDoor.Mem
