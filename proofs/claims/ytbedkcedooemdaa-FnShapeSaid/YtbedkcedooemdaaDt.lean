/- Bodies of a right shape, drawn: a contract, by how deep they may still go. -/
import Derived.Test.YtbedkcedooemdaaDs
import Derived.Deep.Cut
import Derived.Deep.CutRange
namespace Go.Proofs.Ytbedkcedooemdaa.Draw
open Go.RowKit Go.Proofs.Ytbedkcedooemdaa.Num Go.Proofs.Ytbedkcedooemdaa.NumC Go.Proofs.Ytbedkcedooemdaa.Mem Go.Proofs.Ytbedkcedooemdaa.Shape Go.Proofs.Ytbedkcedooemdaa.Body Go.Proofs.Ytbedkcedooemdaa.Ops
set_option linter.unusedVariables false
/-- append of a slice that can be read, as one step of a region that draws -/
theorem stepA {P : Program} {t e : TypeId} {z : Value} {size bytes base n c m c2 : Nat} {A X : Option Addr} {xs ys : List Value} {w : World} {ops : Array Oper} {o : Oper} {a : Act} {K : Act → World → Prop} {Q : Exit → Act → World → Prop} {E0 : Prop} (hgd : o.guard = none) (s x : Operand)
    (ho : o.op = .call { callee := .builtin .append, args := #[s, x], argTypes := #[t, t] }) (hs : a.eval s = .slice A n c) (hx : a.eval x = .slice X m c2)
    (E : Elem P t e z size bytes) (hown : Ow w base e size A n c xs) (hrd : Rd w w.heap.size size X m ys) (h1 : ∀ u ∈ ys, u.oneCell' = true)
    (hb : (n + m) * bytes ≤ 140737488355328) (hbase : base ≤ w.heap.size)
    (h : ∀ A' c' w', Ow w' base e size A' (n + m) c' (xs ++ ys) → w.grownBy w' (blk A) → K (a.put o.dst (.slice A' (n + m) c')) w') :
    if Region.wanted o (yielded ops a.tmps) = true then Oper.wp P o a w K Q else E0 := by
  have hw : Region.wanted o (yielded ops a.tmps) = true := by simp [Region.wanted, hgd]
  rw [if_pos hw]
  obtain ⟨v', w', hrun, A', c', rfl, hw', hg, hbl⟩ := run_app (P := P) (w := w) E o.type hown X m c2 ys hrd h1 hb hbase
  unfold Oper.wp execOp
  simp only [ho, resolve, invoke, builtin, Sem.run_bind, Sem.run_pure, Result.andThen_ok, List.map_toArray, List.map_cons, List.map_nil, hs, hx, hrun]
  exact h A' c' w' hw' hg
/-- append of one element that lies in a block made for it just now -/
theorem stepL {P : Program} {t e : TypeId} {z : Value} {size bytes base n c g : Nat} {A : Option Addr} {xs : List Value} {w : World} {ops : Array Oper} {o : Oper} {a : Act} {K : Act → World → Prop} {Q : Exit → Act → World → Prop} {E0 : Prop} {cs : Array Value} (hgd : o.guard = none) (s x : Operand)
    (ho : o.op = .call { callee := .builtin .append, args := #[s, x], argTypes := #[t, t] }) (hs : a.eval s = .slice A n c) (hx : a.eval x = .slice (some ⟨g, 0, none⟩) 1 1) (hg : g = w.heap.size)
    (E : Elem P t e z size bytes) (hown : Ow w base e size A n c xs) (hcs : cs.size = 1 * size) (h1 : ∀ u ∈ cs.toList, u.oneCell' = true)
    (hb : (n + 1) * bytes ≤ 140737488355328) (hbase : base ≤ w.heap.size)
    (h : ∀ A' c' w', Ow w' base e size A' (n + 1) c' (xs ++ cs.toList) → w.grownBy w' (blk A) → K (a.put o.dst (.slice A' (n + 1) c')) w') :
    if Region.wanted o (yielded ops a.tmps) = true then Oper.wp P o a (w.alloc (.cells cs e)) K Q else E0 := by
  subst hg
  have hrd : Rd (w.alloc (.cells cs e)) (w.alloc (.cells cs e)).heap.size size (some ⟨w.heap.size, 0, none⟩) 1 cs.toList := by
    refine ⟨by simp [hcs], fun _ => ⟨w.heap.size, 0, rfl, by simp, fun j u hu => ?_⟩⟩
    rw [cell_of_row _ w.heap.size (0 + j) cs e (0, 0) (heap_alloc_new w _)]
    simpa using hu
  refine stepA hgd s x ho hs hx E (World.ownsRow.alloc hown _) hrd h1 hb (by simp; omega) (fun A' c' w' hw hg => h A' c' w' hw ?_)
  exact ⟨hg.os, hg.tape, hg.output, by have := hg.size; simp at this; omega, fun k hk hne => (hg.block k (by simp; omega) hne).trans (Below.heap_alloc w _ k hk)⟩
/-- a body that is being drawn -/
structure ST (base lim g : Nat) (A : Option Addr) (n c : Nat) (bs : List Int) (w0 : World) (B : Option Addr) (d : Nat) (l : List Ins3) (w : World) : Prop where
  le : l.length ≤ lim
  own : Ow w base 27 3 B l.length d (insC l)
  cur : Cur w g A n c bs
  gr : w0.grownBy w (some g)
  bs : base ≤ w.heap.size
  gb : g < base
  b0 : w0.heap.size ≤ base
section
variable {base lim g : Nat} {A : Option Addr} {n c : Nat} {bs : List Int} {w0 : World} {B : Option Addr} {d : Nat} {l : List Ins3} {w w' : World}
theorem ST.up {lim' : Nat} (h : ST base lim g A n c bs w0 B d l w) (hl : l.length ≤ lim') : ST base lim' g A n c bs w0 B d l w := ⟨hl, h.own, h.cur, h.gr, h.bs, h.gb, h.b0⟩
theorem ST.drewN (h : ST base lim g A n c bs w0 B d l w) (k : Nat) : ST base lim g A n c bs w0 B d l (w.drewN k) := ⟨h.le, h.own.drewN k, cur_drewN h.cur k, gr_drewN h.gr k, h.bs, h.gb, h.b0⟩
theorem ST.alloc (h : ST base lim g A n c bs w0 B d l w) (o : Obj) : ST base lim g A n c bs w0 B d l (w.alloc o) :=
  ⟨h.le, World.ownsRow.alloc h.own _, cur_alloc h.cur o, gr_alloc h.gr o, by have := h.bs; simp; omega, h.gb, h.b0⟩
theorem ST.draw (h : ST base lim g A n c bs w0 B d l w) (hc : Cur w' g A n c bs) (hg : w.grownBy w' (some g)) : ST base lim g A n c bs w0 B d l w' :=
  ⟨h.le, h.own.kept hg (own_ne h.own h.gb), hc, grown_trans h.gr hg, Nat.le_trans h.bs hg.size, h.gb, h.b0⟩
theorem ST.app {lim' d' N : Nat} {B' : Option Addr} {m : List Ins3} (h : ST base lim g A n c bs w0 B d l w) (hl : l.length + m.length ≤ lim') (hN : N = l.length + m.length) (ho : Ow w' base 27 3 B' N d' (insC l ++ insC m)) (hg : w.grownBy w' (blk B)) :
    ST base lim' g A n c bs w0 B' d' (l ++ m) w' := by
  subst hN
  refine ⟨by simpa using hl, ?_, cur_grown h.cur hg (fun b hb => by have := (h.own.blk_lt b hb).1; have := h.gb; omega), gr_new h.gr hg (fun b hb => by have := (h.own.blk_lt b hb).1; have := h.b0; omega), Nat.le_trans h.bs hg.size, h.gb, h.b0⟩
  rw [insC_app, List.length_append]
  exact ho
theorem ST.ne {B' : Option Addr} {e' size' n' c' : Nat} {xs : List Value} {w1 : World} (h : ST base lim g A n c bs w0 B d l w) (ho : Ow w1 w.heap.size e' size' B' n' c' xs) : blk B' = none ∨ blk B' ≠ blk B :=
  blk_ne' (A := B) (B := w.heap.size) (fun g hg => (h.own.blk_lt g hg).2) (fun g hg => (ho.blk_lt g hg).1)
end
theorem ins_one (l : List Ins3) : ∀ u ∈ insC l, u.oneCell' = true := by
  induction l with
  | nil => intro u hu; cases hu
  | cons x l ih =>
    intro u hu
    rw [show insC (x :: l) = [.int .i64 x.1, .int .i64 x.2.1, .int .i64 x.2.2] ++ insC l from rfl] at hu
    rcases List.mem_append.1 hu with h | h
    · simp only [List.mem_cons, List.not_mem_nil, or_false] at h
      rcases h with rfl | rfl | rfl <;> rfl
    · exact ih u h
theorem ins_c1 (a b c : Int) : (#[Value.int .i64 a, Value.int .i64 b, Value.int .i64 c] : Array Value).toList = insC [(a, b, c)] := rfl
abbrev lit3 : Obj := .cells #[.int .i64 2, .int .i64 3, .int .i64 4] 3
theorem lit3_cell (w : World) (g : Nat) (hg : g = w.heap.size) (j : Nat) (hj : j < 3) : ∃ v : Int, (v = 2 ∨ v = 3 ∨ v = 4) ∧ (w.alloc lit3).cell? ⟨g, j, none⟩ = some (.int .i64 v) := by
  subst hg
  rcases (by omega : j = 0 ∨ j = 1 ∨ j = 2) with rfl | rfl | rfl
  · exact ⟨2, .inl rfl, by rw [cell_of_row _ w.heap.size _ _ _ (0, 0) (heap_alloc_new w _)]; rfl⟩
  · exact ⟨3, .inr (.inl rfl), by rw [cell_of_row _ w.heap.size _ _ _ (0, 0) (heap_alloc_new w _)]; rfl⟩
  · exact ⟨4, .inr (.inr rfl), by rw [cell_of_row _ w.heap.size _ _ _ (0, 0) (heap_alloc_new w _)]; rfl⟩
section
variable {base lim g : Nat} {A : Option Addr} {n c : Nat} {bs : List Int} {w0 : World} {B : Option Addr} {d : Nat} {l : List Ins3} {w : World} (h : ST base lim g A n c bs w0 B d l w)
include h
/-- the operation is picked out of a list that is made behind the draw, or ahead of it -/
theorem pick3b : Calls Try.prog 15 #[.pointer (some ⟨g, 0, none⟩), .int .i64 3] w fun e w' => ∃ (j : Nat) (v : Int), e = .returned (.int .i64 j) ∧ (j : Int) < 3 ∧ (0 : Int) ≤ j ∧ (v = 2 ∨ v = 3 ∨ v = 4) ∧
    (w'.alloc lit3).cell? ⟨w'.heap.size, j, none⟩ = some (.int .i64 v) ∧ ST base lim g A n c bs w0 B d l (w'.alloc lit3) := by
  refine (below_g g A n c bs w _ h.cur (World.grownBy.refl _ _) 3 (by omega)).mono ?_
  rintro e w6 ⟨k6, rfl, ⟨p6, q6⟩, hc6, hg6⟩
  obtain ⟨j, rfl⟩ : ∃ j : Nat, k6 = j := ⟨k6.toNat, by omega⟩
  obtain ⟨v, hv, hcell⟩ := lit3_cell w6 w6.heap.size rfl j (by omega)
  exact ⟨j, v, rfl, q6, p6, hv, hcell, (h.draw hc6 hg6).alloc _⟩
theorem pick3a : Calls Try.prog 15 #[.pointer (some ⟨g, 0, none⟩), .int .i64 3] (w.alloc lit3) fun e w' => ∃ (j : Nat) (v : Int), e = .returned (.int .i64 j) ∧ (j : Int) < 3 ∧ (0 : Int) ≤ j ∧ (v = 2 ∨ v = 3 ∨ v = 4) ∧
    w'.cell? ⟨w.heap.size, j, none⟩ = some (.int .i64 v) ∧ ST base lim g A n c bs w0 B d l w' := by
  refine (below_g g A n c bs (w.alloc lit3) _ (h.alloc _).cur (World.grownBy.refl _ _) 3 (by omega)).mono ?_
  rintro e w6 ⟨k6, rfl, ⟨p6, q6⟩, hc6, hg6⟩
  obtain ⟨j, rfl⟩ : ∃ j : Nat, k6 = j := ⟨k6.toNat, by omega⟩
  obtain ⟨v, hv, hcell⟩ := lit3_cell w w.heap.size rfl j (by omega)
  have hlt := cur_lt h.cur
  exact ⟨j, v, rfl, q6, p6, hv, (World.cell?_of_block (a := ⟨w.heap.size, j, none⟩) (hg6.block w.heap.size (by simp) (fun e => by injection e with e; omega))).trans hcell, (h.alloc _).draw hc6 hg6⟩
end
end Go.Proofs.Ytbedkcedooemdaa.Draw
