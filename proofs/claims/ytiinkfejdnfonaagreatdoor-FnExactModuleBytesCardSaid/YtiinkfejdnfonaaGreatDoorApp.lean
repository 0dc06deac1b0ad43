/- Laws of my own for append and make on slices that the call owns: the source may be nil, empty or not. No program in sight. -/
import Derived.Test.YtiinkfejdnfonaaGreatDoorMem
namespace Go.Proofs.YtiinkfejdnfonaaGreatDoor.Mem
open Go.RowKit

/-- what the program's tables say of a slice type t over elements of type e -/
structure Elem (P : Program) (t e : TypeId) (z : Value) (size bytes : Nat) : Prop where
  under : P.underlying t = some (.slice e)
  info : ∃ i, P.info? e = some i ∧ i.zero = some z ∧ i.size = size ∧ i.bytes = bytes
  cells : z.cells.size = size
  pos : 0 < size
  bpos : 0 < bytes
theorem Elem.mk_ {P : Program} {t e : TypeId} {z : Value} {size bytes : Nat} (h : P.underlying t = some (.slice e)) (hi : (P.info? e).map (fun i => (i.zero, i.size, i.bytes)) = some (some z, size, bytes)) (hc : z.cells.size = size) (hs : 0 < size) (hb : 0 < bytes) : Elem P t e z size bytes := by
  obtain ⟨i, h1, h2, h3, h4⟩ := info_parts hi
  exact ⟨h, ⟨i, h1, h2, h3, h4⟩, hc, hs, hb⟩

section
variable {P : Program} {t e : TypeId} {z : Value} {size bytes base n c : Nat} {A : Option Addr} {xs : List Value} {w : World}

/-- what an append leaves -/
def Appended (w : World) (base e size : Nat) (A : Option Addr) (n : Nat) (xs : List Value) (v' : Value) (w' : World) : Prop :=
  ∃ A' c', v' = .slice A' n c' ∧ Ow w' base e size A' n c' xs ∧ w.grownBy w' (blk A) ∧ (blk A' = blk A ∨ ∃ g, blk A' = some g ∧ w.heap.size ≤ g)
theorem own_slice {w : World} {base e size n : Nat} {v : Value} {xs : List Value} (h : w.ownsRow base e size v n xs) : ∃ A c, v = .slice A n c ∧ Ow w base e size A n c xs := by
  obtain ⟨A, c, rfl, _⟩ := own_form h
  exact ⟨A, c, rfl, h⟩
theorem blk_own (A : Option Addr) (n c : Nat) : (Value.slice A n c).ownBlock = blk A := by cases A <;> rfl

theorem run_app (E : Elem P t e z size bytes) (ty : TypeId) (hown : Ow w base e size A n c xs) (B : Option Addr) (m d : Nat) (ys : List Value) (hr : Rd w w.heap.size size B m ys) (h1 : ∀ u ∈ ys, u.oneCell' = true)
    (hb : (n + m) * bytes ≤ 140737488355328) (hbase : base ≤ w.heap.size) :
    ∃ v' w', (Builtin.append_ #[t, t] ty #[.slice A n c, .slice B m d]).run P w = .ok v' w' ∧ Appended w base e size A (n + m) (xs ++ ys) v' w' := by
  obtain ⟨i, hi, hz, hsz, hby⟩ := E.info
  have h63 : n + m ≤ maxLen := by
    have := Nat.le_mul_of_pos_right (n + m) E.bpos
    unfold maxLen
    omega
  have fin : ∀ (a : Addr) (_ : ∀ j u, ys[j]? = some u → w.cell? (a.add j) = some u), ∃ v' w', (Builtin.append_ #[t, t] ty #[.slice A n c, .slice (some a) m d]).run P w = .ok v' w' ∧ Appended w base e size A (n + m) (xs ++ ys) v' w' := by
    intro a ha
    obtain ⟨v', w', hrun, h2, h3, _, h5⟩ := run_append_own_at (P := P) w base t ty e i z size bytes E.under hi hz hsz hby E.cells E.pos (.slice A n c) n xs hown a m d ys hr.1 ha h1 h63 hb hbase
    obtain ⟨A', c', rfl, hw⟩ := own_slice h2
    refine ⟨_, w', hrun, A', c', rfl, hw, by rwa [blk_own] at h3, ?_⟩
    rw [blk_own, blk_own] at h5
    rcases h5 with h5 | h5
    · exact .inl h5
    · exact .inr ⟨_, h5, Nat.le_refl _⟩
  rcases Nat.eq_zero_or_pos m with h0 | h0
  · subst h0
    have hn : ys = [] := List.eq_nil_of_length_eq_zero (by simpa using hr.1)
    subst hn
    cases B with
    | some a => exact fin a (fun j u hu => by simp at hu)
    | none =>
      refine ⟨.slice A n c, w, ?_, A, c, rfl, by simpa using hown, World.grownBy.refl w _, .inl rfl⟩
      rcases hown.2 with ⟨hv, rfl⟩ | ⟨g, cap, cur, hv, _, hg, hnc, _⟩
      · injection hv with e1 _ e3
        subst e1; subst e3
        simp [Builtin.append_, run_underlying E.under, sizeOf, typeInfo, hi, Builtin.lenOf, Builtin.firstCells]
      · injection hv with e1 _ e3
        subst e1; subst e3
        simp [Builtin.append_, run_underlying E.under, sizeOf, typeInfo, hi, Builtin.lenOf, Builtin.firstCells, hnc, storeCells]
  · obtain ⟨b, off, rfl, _, hc⟩ := hr.2 h0
    refine fin ⟨b, off, none⟩ (fun j u hu => ?_)
    have ha : (⟨b, off, none⟩ : Addr).add j = ⟨b, off + j, none⟩ := by unfold Addr.add; split <;> simp_all
    rw [ha]
    exact hc j u hu

/-- 'append(out, xs...)' -/
theorem app {ops : Array Oper} {rest : List Oper} {o : Oper} {a : Act} {Q : Exit → Act → World → Prop} (hgd : o.guard = none) (s x : Operand)
    (ho : o.op = .call { callee := .builtin .append, args := #[s, x], argTypes := #[t, t] }) (hs : a.eval s = .slice A n c) {B : Option Addr} {m d : Nat} (hx : a.eval x = .slice B m d)
    (E : Elem P t e z size bytes) (hown : Ow w base e size A n c xs) {ys : List Value} (hr : Rd w w.heap.size size B m ys) (h1 : ∀ u ∈ ys, u.oneCell' = true)
    (hb : (n + m) * bytes ≤ 140737488355328) (hbase : base ≤ w.heap.size)
    (h : ∀ A' c' w', Ow w' base e size A' (n + m) c' (xs ++ ys) → w.grownBy w' (blk A) → (blk A' = blk A ∨ ∃ g, blk A' = some g ∧ w.heap.size ≤ g) → wpList P ops Q rest (a.put o.dst (.slice A' (n + m) c')) w') : wpList P ops Q (o :: rest) a w := by
  refine wpList_plain hgd fun K hK => ?_
  obtain ⟨v', w', hrun, A', c', rfl, hw, hg, hbl⟩ := run_app (P := P) (w := w) E o.type hown B m d ys hr h1 hb hbase
  unfold Oper.wp execOp
  simp only [ho, resolve, invoke, builtin, Sem.run_bind, Sem.run_pure, Result.andThen_ok, List.map_toArray, List.map_cons, List.map_nil, hs, hx, hrun]
  exact hK _ _ (h A' c' w' hw hg hbl)

/-- 'append(out, x)': the one element lies in a block of its own that was made for the call -/
theorem app1 {ops : Array Oper} {rest : List Oper} {o : Oper} {a : Act} {Q : Exit → Act → World → Prop} {cs : Array Value} (hgd : o.guard = none) (s x : Operand)
    (ho : o.op = .call { callee := .builtin .append, args := #[s, x], argTypes := #[t, t] }) (hs : a.eval s = .slice A n c) (hx : a.eval x = .slice (some ⟨w.heap.size, 0, none⟩) 1 1)
    (E : Elem P t e z size bytes) (hown : Ow w base e size A n c xs) (hcs : cs.size = size) (h1 : ∀ u ∈ cs.toList, u.oneCell' = true)
    (hb : (n + 1) * bytes ≤ 140737488355328) (hbase : base ≤ w.heap.size)
    (h : ∀ A' c' w', Ow w' base e size A' (n + 1) c' (xs ++ cs.toList) → w.grownBy w' (blk A) → (blk A' = blk A ∨ ∃ g, blk A' = some g ∧ w.heap.size ≤ g) → wpList P ops Q rest (a.put o.dst (.slice A' (n + 1) c')) w') : wpList P ops Q (o :: rest) a (w.alloc (.cells cs e)) := by
  have hrd : Rd (w.alloc (.cells cs e)) (w.alloc (.cells cs e)).heap.size size (some ⟨w.heap.size, 0, none⟩) 1 cs.toList := by
    refine ⟨by simp [hcs], fun _ => ⟨w.heap.size, 0, rfl, by simp, fun j u hu => ?_⟩⟩
    rw [cell_of_row _ w.heap.size (0 + j) cs e (0, 0) (heap_alloc_new w _)]
    simpa using hu
  have ho2 : Ow (w.alloc (.cells cs e)) base e size A n c xs := World.ownsRow.alloc hown _
  refine app (w := w.alloc (.cells cs e)) hgd s x ho hs hx E ho2 hrd h1 hb (by simp; omega) (fun A' c' w' hw hg hbl => h A' c' w' hw ?_ ?_)
  · exact ⟨hg.os, hg.tape, hg.output, by have := hg.size; simp at this; omega, fun k hk hne => (hg.block k (by simp; omega) hne).trans (Below.heap_alloc w _ k hk)⟩
  · rcases hbl with hbl | ⟨g, hbl, hge⟩
    · exact .inl hbl
    · exact .inr ⟨g, hbl, by simp at hge; omega⟩

theorem below_app {w w' w0 : World} {B : Nat} {row : Option Nat} (h : Below B w0 w) (hg : w.grownBy w' row) (hB : B ≤ w.heap.size) (hr : ∀ g, row = some g → B ≤ g) : Below B w0 w' := h.grown hg hB hr

/-- 'make([]T, n)' -/
theorem mk_full {ops : Array Oper} {rest : List Oper} {o : Oper} {a : Act} {Q : Exit → Act → World → Prop} (hgd : o.guard = none) (l c : Operand) (hop : o.op = Op.makeSlice t l c)
    (E : Elem P t e z size bytes) (n : Nat) (hl : a.eval l = .int .i64 (n : Int)) (hc : a.eval c = .int .i64 (n : Int)) (hb : bytes * n ≤ 281474976710656)
    (hK : ∀ w', Ow w' w.heap.size e size (some ⟨w.heap.size, 0, none⟩) n n (madeCells z.cells (n * size)).toList → w.grownBy w' none → wpList P ops Q rest (a.put o.dst (.slice (some ⟨w.heap.size, 0, none⟩) n n)) w') : wpList P ops Q (o :: rest) a w := by
  obtain ⟨i, hi, hz, hsz, hby⟩ := E.info
  have : n ≤ maxLen := by
    have := Nat.le_mul_of_pos_left n E.bpos
    unfold maxLen
    omega
  exact wpList_make_full w hgd l c t hop w.heap.size e i z size E.under hi hz hsz .i64 .i64 _ _ n hl hc rfl rfl (by rw [hby]; exact hb) this (Nat.le_refl _) hK
end

theorem one_int (k : IntKind) (bs : List Int) : ∀ u ∈ bs.map (Value.int k), u.oneCell' = true := ints_oneCell k bs

end Go.Proofs.YtiinkfejdnfonaaGreatDoor.Mem
