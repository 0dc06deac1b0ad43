/- An argument that is a slice of numbers, opened: nil or not, in one word. -/
import Derived.WalkKit
import Derived.ProofKit
import Derived.OpenShut
import Derived.Test.YtiinkfejdnfonaaGreatDoorMem
namespace Go.Proofs.YtiinkfejdnfonaaGreatDoor.Mem
open Go.ChangeShapes Go.WideShapes Go.ChangeAt Go.RowKit

/-- what is known of a slice of numbers of kind k that came in -/
structure IsNums (k : IntKind) (w : World) (A : Option Addr) (n c : Nat) (bs : List Int) : Prop where
  le : n ≤ c
  max : c ≤ maxLen
  rd : Rd w w.heap.size 1 A n (bs.map (Value.int k))
  len : bs.length = n
  wf : ∀ x ∈ bs, (Lit.int k x).wf = true

theorem open_nums {H : Type} {enc : TypeId × Value → H} {P : Program} {w : World} {spare : Nat → Bool} {held : Bool} {t e : TypeId} {k : IntKind} {r : Reach} {b0 : Nat} {v : Value} {d : DataW H} {p : List MemPlace}
    (ht : P.underlying t = some (.slice e)) (he : P.underlying e = some (.int k)) (hc : P.cellsOf e = 1) (hv : Value.okWide P w r b0 t v) (h : DataW.Trod enc P w 0 spare held t v d p) :
    ∃ (A : Option Addr) (n c : Nat) (bs : List Int), v = .slice A n c ∧ IsNums k w A n c bs := by
  obtain ⟨A, n, c, rfl⟩ := okWide_slice ht hv
  obtain ⟨fuel, hf⟩ := h
  rcases open_ints ht he hc hf with ⟨hcs, _⟩ | ⟨x, l, c', zs, hcs, _, hl, hm, hz, _, hcell, hwz⟩
  · simp only [Value.cells, List.cons.injEq, and_true, Value.slice.injEq] at hcs
    obtain ⟨rfl, rfl, rfl⟩ := hcs
    exact ⟨none, 0, 0, [], rfl, Nat.le_refl _, Nat.zero_le _, ⟨rfl, fun h => absurd h (Nat.lt_irrefl 0)⟩, rfl, fun _ h => by cases h⟩
  · simp only [Value.cells, List.cons.injEq, and_true, Value.slice.injEq] at hcs
    obtain ⟨rfl, rfl, rfl⟩ := hcs
    have hzl : n ≤ zs.length := by rw [hz]; split <;> omega
    refine ⟨some x, n, c, zs.take n, rfl, hl, hm, ⟨by simp; omega, fun hn => ?_⟩, by simp; omega, fun y hy => hwz y (List.mem_of_mem_take hy)⟩
    have h0 := hcell 0 (by omega)
    obtain ⟨b, off, spot⟩ := x
    have hs : spot = none := by
      have := World.cell?_spot h0
      simpa [Addr.add] using this
    subst hs
    have hb : b < w.heap.size := by
      have := World.block_lt_of_cell? w _ h0
      simpa [Addr.add] using this
    refine ⟨b, off, rfl, hb, fun j u hu => ?_⟩
    rw [List.getElem?_map] at hu
    obtain ⟨y, hy, rfl⟩ := Option.map_eq_some_iff.1 hu
    have hj : j < (zs.take n).length := (List.getElem?_eq_some_iff.1 hy).1
    have hj2 : j < zs.length := by simp at hj; omega
    have := hcell j hj2
    have ha : (⟨b, off, none⟩ : Addr).add j = ⟨b, off + j, none⟩ := by unfold Addr.add; split <;> simp_all
    rw [ha] at this
    rw [this]
    rw [List.getElem?_take] at hy
    split at hy
    · simp [List.getD, hy]
    · cases hy

theorem u8_of_wf {x : Int} (h : (Lit.int .u8 x).wf = true) : 0 ≤ x ∧ x ≤ 255 := by
  simp [Lit.wf, IntKind.min, IntKind.max, IntKind.bits, IntKind.signed] at h
  omega

end Go.Proofs.YtiinkfejdnfonaaGreatDoor.Mem
