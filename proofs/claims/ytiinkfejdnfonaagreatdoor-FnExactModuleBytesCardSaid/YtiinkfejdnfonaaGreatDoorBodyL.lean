/- The laws on EndOf, ElseOf and ShapeOk, walked; an argument that is a body, opened. -/
import Derived.Test.YtiinkfejdnfonaaGreatDoorBody
import Derived.Test.YtiinkfejdnfonaaGreatDoorOpen
import Derived.Deep.Slices
import Derived.Deep.Fields
import Derived.ChangeSame
namespace Go.Proofs.YtiinkfejdnfonaaGreatDoor
open Go.ChangeShapes Go.WideShapes Go.Deep Go.RowKit Go.Proofs.YtiinkfejdnfonaaGreatDoor.Num Go.Proofs.YtiinkfejdnfonaaGreatDoor.Mem Go.Proofs.YtiinkfejdnfonaaGreatDoor.Shape Go.Proofs.YtiinkfejdnfonaaGreatDoor.Body
set_option linter.unusedVariables false

section
variable {H : Type} {enc : TypeId × Value → H} {P : Program} {w : World} {base : Nat} {spare : Nat → Bool} {held : Bool}
theorem open_slice_fields {t e : TypeId} {fs : Array Field} {fuel : Nat} {cs : List Value} {x : DataW H × List MemPlace} (ht : P.underlying t = some (.slice e)) (he : P.underlying e = some (.struct fs))
    (hone : oneCellFields P fs = true) (hC : P.cellsOf e = fs.size) (h : DataW.trod enc P w base spare held fuel t cs = some x) :
    (cs = [.slice none 0 0] ∧ x = (.nil, [])) ∨
    ∃ (a : Addr) (len cap m : Nat) (D : Nat → DataW H) (Pl : Nat → List MemPlace), cs = [.slice (some a) len cap] ∧ base ≤ a.block ∧ len ≤ cap ∧ cap ≤ maxLen ∧ m = (if spare a.block then cap else len) ∧
      x = (.slice ((List.range len).map D) ((List.range (m - len)).map fun j => D (len + j)), MemPlace.row a (m * fs.size) ++ (List.range m).flatMap Pl) ∧
      ∀ i, i < m → ∃ (ys : List (DataW H × List MemPlace)) (n : Nat), D i = .agg (ys.map (·.1)) ∧ Pl i = ys.flatMap (·.2) ∧ ys.length = fs.size ∧
        ∀ (j : Nat) (f : Field), fs[j]? = some f → ∃ (v : Value) (y : DataW H × List MemPlace), w.cell? (a.add (i * fs.size + j)) = some v ∧ ys[j]? = some y ∧ DataW.trod enc P w base spare held n f.type [v] = some y := by
  rcases open_slice ht h with h0 | ⟨a, len, cap, m, n, D, Pl, hcs, hb, hl, hm, hmm, hx, hi⟩
  · exact .inl h0
  · refine .inr ⟨a, len, cap, m, D, Pl, hcs, hb, hl, hm, hmm, by rw [hC] at hx; exact hx, fun i him => ?_⟩
    obtain ⟨cs', hc, ht'⟩ := hi i him
    rw [hC] at hc
    obtain ⟨ys, n', hn', hy, hlen, hyl, hf⟩ := DataW.trod_struct he ht'
    obtain ⟨_, hcl, hat⟩ := World.cells?_some hc
    simp only [Prod.mk.injEq] at hy
    refine ⟨ys, n', hy.1, hy.2, hyl, fun j f hj => ?_⟩
    obtain ⟨ho, hk⟩ := hone_of hone j f hj
    have hjl : j < fs.size := (Array.getElem?_eq_some_iff.1 hj).1
    have hcell := hat j hjl
    have hv : cs'[j]? = some (cs'[j]'(by omega)) := List.getElem?_eq_getElem (by omega)
    have h1 := hf j f hj
    rw [ho, hk] at h1
    have hone' : (cs'.drop j).take 1 = [cs'[j]'(by omega)] := by
      rw [List.drop_eq_getElem_cons (by omega)]
      rfl
    rw [hone'] at h1
    have hys : ys[j]? = some (ys[j]'(by omega)) := List.getElem?_eq_getElem (by omega)
    refine ⟨_, _, ?_, hys, h1.trans hys⟩
    rw [← Go.Deep.add_add, hcell, hv]
end

set_option maxRecDepth 100000 in
theorem open_inss {H : Type} {enc : TypeId × Value → H} {w : World} {spare : Nat → Bool} {held : Bool} {r : Reach} {b0 : Nat} {v : Value} {d : DataW H} {p : List MemPlace}
    (hv : Value.okWide Tryz.prog w r b0 109 v) (h : DataW.Trod enc Tryz.prog w 0 spare held 109 v d p) :
    ∃ a : Option Addr × Nat × Nat × List Ins3, v = .slice a.1 a.2.1 a.2.2.1 ∧ a.2.1 ≤ maxLen ∧ Rd w w.heap.size 3 a.1 a.2.1 (insC a.2.2.2) := by
  obtain ⟨A, n, c, rfl⟩ := okWide_slice Tryz.underlying109 hv
  obtain ⟨fuel, hf⟩ := h
  rcases open_slice_fields Tryz.underlying109 Tryz.underlying153 (by kernel_rfl) (by kernel_rfl) hf with ⟨hcs, _⟩ | ⟨x, l, c', m, D, Pl, hcs, _, hl, hm, hmm, _, hi⟩
  · simp only [Value.cells, List.cons.injEq, and_true, Value.slice.injEq] at hcs
    obtain ⟨rfl, rfl, rfl⟩ := hcs
    exact ⟨(none, 0, 0, []), rfl, Nat.zero_le _, ⟨rfl, fun h => absurd h (Nat.lt_irrefl 0)⟩⟩
  · simp only [Value.cells, List.cons.injEq, and_true, Value.slice.injEq] at hcs
    obtain ⟨rfl, rfl, rfl⟩ := hcs
    have hnm : n ≤ m := by rw [hmm]; split <;> omega
    have each : ∀ k, k < n → ∃ i : Ins3, w.cell? (x.add (k * 3)) = some (.int .i64 i.1) ∧ w.cell? (x.add (k * 3 + 1)) = some (.int .i64 i.2.1) ∧ w.cell? (x.add (k * 3 + 2)) = some (.int .i64 i.2.2) := by
      intro k hk
      obtain ⟨ys, q, _, _, _, hf⟩ := hi k (by omega)
      obtain ⟨v0, y0, c0, _, t0⟩ := hf 0 _ rfl
      obtain ⟨v1, y1, c1, _, t1⟩ := hf 1 _ rfl
      obtain ⟨v2, y2, c2, _, t2⟩ := hf 2 _ rfl
      obtain ⟨x0, e0, _, _⟩ := DataW.trod_int Tryz.underlying3 t0
      obtain ⟨x1, e1, _, _⟩ := DataW.trod_int Tryz.underlying3 t1
      obtain ⟨x2, e2, _, _⟩ := DataW.trod_int Tryz.underlying3 t2
      simp only [List.cons.injEq, and_true] at e0 e1 e2
      subst e0; subst e1; subst e2
      exact ⟨(x0, x1, x2), c0, c1, c2⟩
    have all : ∀ k, k ≤ n → ∃ l : List Ins3, l.length = k ∧ ∀ j u, (insC l)[j]? = some u → w.cell? (x.add j) = some u := by
      intro k
      induction k with
      | zero => exact fun _ => ⟨[], rfl, fun j u hu => by simp [insC] at hu⟩
      | succ k ih =>
        intro hk
        obtain ⟨l, hl, hc⟩ := ih (by omega)
        obtain ⟨i, c0, c1, c2⟩ := each k (by omega)
        refine ⟨l ++ [i], by simp [hl], fun j u hu => ?_⟩
        rw [insC_app] at hu
        by_cases hj : j < k * 3
        · rw [List.getElem?_append_left (by rw [insC_len, hl]; exact hj)] at hu
          exact hc j u hu
        · rw [List.getElem?_append_right (by rw [insC_len, hl]; omega), insC_len, hl] at hu
          obtain ⟨q, rfl⟩ : ∃ q, j = k * 3 + q := ⟨j - k * 3, by omega⟩
          rw [Nat.add_sub_cancel_left] at hu
          match q, hu with
          | 0, hu => simp only [insC, List.getElem?_cons_zero, Option.some.injEq] at hu; rw [← hu]; exact c0
          | 1, hu => simp only [insC, List.getElem?_cons_succ, List.getElem?_cons_zero, Option.some.injEq] at hu; rw [← hu]; exact c1
          | 2, hu => simp only [insC, List.getElem?_cons_succ, List.getElem?_cons_zero, Option.some.injEq] at hu; rw [← hu]; exact c2
          | q + 3, hu => simp [insC] at hu
    obtain ⟨l, hll, hc⟩ := all n (Nat.le_refl n)
    refine ⟨(some x, n, c, l), rfl, by show n ≤ maxLen; omega, ⟨by rw [insC_len, hll], fun hn => ?_⟩⟩
    obtain ⟨i, c0, _, _⟩ := each 0 (by omega)
    obtain ⟨b, off, spot⟩ := x
    have hs : spot = none := by
      have := World.cell?_spot c0
      simpa [Addr.add] using this
    subst hs
    have hb : b < w.heap.size := by
      have := World.block_lt_of_cell? w _ c0
      simpa [Addr.add] using this
    refine ⟨b, off, rfl, hb, fun j u hu => ?_⟩
    have ha : (⟨b, off, none⟩ : Addr).add j = ⟨b, off + j, none⟩ := by unfold Addr.add; split <;> simp_all
    rw [← ha]
    exact hc j u hu
end Go.Proofs.YtiinkfejdnfonaaGreatDoor
