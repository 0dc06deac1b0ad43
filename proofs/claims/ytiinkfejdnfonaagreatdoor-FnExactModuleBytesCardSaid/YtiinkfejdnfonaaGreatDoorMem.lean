/- Small words on memory: a slice that reads as a list of cells, a slice of the call's own; both are kept over what happens elsewhere. No program in sight. -/
import Derived.WalkKit
import Derived.Deep.Draws
import Derived.Deep.AppendLies
import Derived.Maps.AppendAt
namespace Go.Proofs.YtiinkfejdnfonaaGreatDoor.Mem
open Go.RowKit

/-- The slice at A with n elements of 'size' cells each holds the cells xs; its block lies below B. -/
def Rd (w : World) (B size : Nat) (A : Option Addr) (n : Nat) (xs : List Value) : Prop :=
  xs.length = n * size ∧ (0 < n → ∃ b off, A = some ⟨b, off, none⟩ ∧ b < B ∧ ∀ j u, xs[j]? = some u → w.cell? ⟨b, off + j, none⟩ = some u)

/-- The slice at A is at the head of a row that the call owns (blocks from 'base' on). -/
def Ow (w : World) (base e size : Nat) (A : Option Addr) (n c : Nat) (xs : List Value) : Prop := w.ownsRow base e size (.slice A n c) n xs

/-- the block of an address -/
def blk : Option Addr → Option Nat
  | some a => some a.block
  | none => none

section
variable {w w' : World} {B B' base e size n c : Nat} {A : Option Addr} {xs : List Value}
theorem Rd.nil : Rd w B size A 0 [] := ⟨by simp, fun h => absurd h (by omega)⟩
theorem Rd.keep (h : Rd w B size A n xs) (hB : B ≤ B') (hk : ∀ p : Addr, p.block < B → some p.block = blk A → w'.cell? p = w.cell? p) : Rd w' B' size A n xs :=
  ⟨h.1, fun hn => by
    obtain ⟨b, off, rfl, hb, hc⟩ := h.2 hn
    exact ⟨b, off, rfl, by omega, fun j u hu => (hk ⟨b, off + j, none⟩ hb rfl).trans (hc j u hu)⟩⟩
theorem Rd.up (h : Rd w B size A n xs) (hB : B ≤ B') : Rd w B' size A n xs := h.keep hB fun _ _ _ => rfl
theorem Rd.below {C : Nat} (h : Rd w B size A n xs) (hb : Below C w w') (hC : B ≤ C) : Rd w' B size A n xs := h.keep (Nat.le_refl _) fun _ hp _ => hb.cell (by omega)
theorem Rd.bel (h : Rd w w.heap.size size A n xs) (hb : Below w.heap.size w w') : Rd w' w'.heap.size size A n xs := h.keep hb.size fun _ hp _ => hb.cell hp
theorem Rd.drew (h : Rd w B size A n xs) : Rd w.drew B size A n xs := h
theorem Rd.drewN (h : Rd w B size A n xs) (k : Nat) : Rd (w.drewN k) B size A n xs := h
theorem Rd.alloc (h : Rd w B size A n xs) (hB : B ≤ w.heap.size) (o : Obj) : Rd (w.alloc o) B size A n xs := h.keep (Nat.le_refl _) fun p hp _ => World.cell?_alloc_lt w o p (by omega)
theorem Rd.grown (h : Rd w B size A n xs) {row : Option Nat} (hg : w.grownBy w' row) (hB : B ≤ w.heap.size) (hne : blk A ≠ row) : Rd w' w'.heap.size size A n xs :=
  h.keep (Nat.le_trans hB hg.size) fun p hp hk => World.cell?_of_block (hg.block p.block (by omega) (fun x => hne (hk.symm.trans x)))

theorem Ow.form (h : Ow w base e size A n c xs) (hn : 0 < n) : ∃ g, A = some ⟨g, 0, none⟩ ∧ base ≤ g ∧ g < w.heap.size := by
  rcases h.2 with ⟨hv, h0⟩ | ⟨g, cap, cur, hv, hb, hg, _⟩
  · omega
  · injection hv with h1
    exact ⟨g, h1, hb, (Array.getElem?_eq_some_iff.1 hg).1⟩
theorem Ow.len (h : Ow w base e size A n c xs) : xs.length = n * size := h.1
theorem Ow.rd (h : Ow w base e size A n c xs) : Rd w w.heap.size size A n xs := by
  refine ⟨h.1, fun hn => ?_⟩
  obtain ⟨g, rfl, _, hlt⟩ := h.form hn
  refine ⟨g, 0, rfl, hlt, fun j u hu => ?_⟩
  have hx : w.cell? ((⟨g, 0, none⟩ : Addr).add j) = some u := World.ownsRow.cells (g := g) h rfl j u hu
  have ha : (⟨g, 0, none⟩ : Addr).add j = ⟨g, 0 + j, none⟩ := by unfold Addr.add; split <;> simp_all
  rwa [ha] at hx
theorem Ow.kept {row : Option Nat} (h : Ow w base e size A n c xs) (hg : w.grownBy w' row) (hne : blk A = none ∨ blk A ≠ row) : Ow w' base e size A n c xs :=
  World.ownsRow.kept h hg (by cases A; exact .inl rfl; exact hne)
theorem Ow.below {C : Nat} (h : Ow w base e size A n c xs) (hb : Below C w w') (hC : w.heap.size ≤ C) : Ow w' base e size A n c xs :=
  World.ownsRow.kept (row := none) h ⟨hb.os, hb.tape, hb.output, hb.size, fun k hk _ => hb.block k (by omega)⟩ (by cases A; exact .inl rfl; exact .inr (by simp [Value.ownBlock]))
theorem Ow.blk_lt (h : Ow w base e size A n c xs) : ∀ g, blk A = some g → base ≤ g ∧ g < w.heap.size := by
  intro g hg
  exact World.ownsRow.lt h g (by cases A; exact hg; exact hg)
theorem Ow.base_le (h : Ow w base e size A n c xs) (hb : B ≤ base) : Ow w B e size A n c xs := by
  refine ⟨h.1, ?_⟩
  rcases h.2 with hn | ⟨g, cap, cur, hv, hg, r⟩
  · exact .inl hn
  · exact .inr ⟨g, cap, cur, hv, by omega, r⟩
theorem Ow.drewN (h : Ow w base e size A n c xs) (k : Nat) : Ow (w.drewN k) base e size A n c xs := h
theorem Ow.lt (h : Ow w base e size A n c xs) : ∀ g, blk A = some g → g < w.heap.size := fun g hg => (h.blk_lt g hg).2
theorem Ow.ge (h : Ow w base e size A n c xs) : ∀ g, blk A = some g → base ≤ g := fun g hg => (h.blk_lt g hg).1
/-- two rows, one made after the other, lie apart -/
theorem blk_ne {A' : Option Addr} (h : ∀ g, blk A = some g → g < B) (h' : ∀ g, blk A' = some g → B ≤ g) : blk A = none ∨ blk A ≠ blk A' := by
  cases hA : blk A with
  | none => exact .inl rfl
  | some g =>
    refine .inr fun e => ?_
    have h1 := h g hA
    have h2 := h' g e.symm
    omega
theorem blk_ne' {A' : Option Addr} (h : ∀ g, blk A = some g → g < B) (h' : ∀ g, blk A' = some g → B ≤ g) : blk A' = none ∨ blk A' ≠ blk A := by
  cases hA : blk A' with
  | none => exact .inl rfl
  | some g =>
    refine .inr fun e => ?_
    have h1 := h g e.symm
    have h2 := h' g hA
    omega
end

theorem grown_trans {a b c : World} {row : Option Nat} (h : a.grownBy b row) (k : b.grownBy c row) : a.grownBy c row :=
  ⟨k.os.trans h.os, k.tape.trans h.tape, k.output.trans h.output, Nat.le_trans h.size k.size, fun i hi hne => (k.block i (Nat.lt_of_lt_of_le hi h.size) hne).trans (h.block i hi hne)⟩
theorem bel_drewN {B : Nat} {a w : World} (h : Below B a w) (n : Nat) : Below B a (w.drewN n) := ⟨h.os, h.tape, h.output, h.size, h.block⟩

theorem bel_grown {B : Nat} {w0 w w' : World} {row : Option Nat} (h : Below B w0 w) (hg : w.grownBy w' row) (hB : B ≤ w.heap.size) (hr : ∀ g, row = some g → B ≤ g) : Below B w0 w' := h.grown hg hB hr
theorem bel_step {B : Nat} {w0 w w' : World} (h : Below B w0 w) (hb : Below w.heap.size w w') (hB : B ≤ w.heap.size) : Below B w0 w' := h.trans (hb.mono hB)
theorem bel_le {B : Nat} {w0 w : World} (h : Below B w0 w) (hB : B ≤ w0.heap.size) : B ≤ w.heap.size := Nat.le_trans hB h.size

/-- a value that is owned is a slice that is written out -/
theorem own_form {w : World} {base e size n : Nat} {v : Value} {xs : List Value} (h : w.ownsRow base e size v n xs) : ∃ A c, v = .slice A n c ∧ n ≤ c := by
  rcases h.2 with ⟨rfl, rfl⟩ | ⟨g, cap, cur, rfl, _, _, hn, _⟩
  · exact ⟨none, 0, rfl, Nat.le_refl _⟩
  · exact ⟨_, _, rfl, hn⟩

def by8 (bs : List Int) : List Value := bs.map (Value.int .u8)
def in64 (bs : List Int) : List Value := bs.map (Value.int .i64)
theorem by8_get {bs : List Int} {k : Nat} (h : k < bs.length) : (by8 bs)[k]? = some (.int .u8 (bs[k]'h)) := by simp [by8, h]
theorem in64_get {bs : List Int} {k : Nat} (h : k < bs.length) : (in64 bs)[k]? = some (.int .i64 (bs[k]'h)) := by simp [in64, h]

end Go.Proofs.YtiinkfejdnfonaaGreatDoor.Mem
