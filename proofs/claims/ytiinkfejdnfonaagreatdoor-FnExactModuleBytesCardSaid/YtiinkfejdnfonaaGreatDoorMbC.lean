/- Words for the walks that lay a module's bytes: a row of bytes that grows, beside a variable of the call's own. -/
import Derived.Test.YtiinkfejdnfonaaGreatDoorMbN
import Derived.Test.YtiinkfejdnfonaaGreatDoorPutC
import Derived.Deep.RegionHeld2
import Derived.Deep.Cut
import Derived.Deep.CutRange
import Derived.StillTailTactics
namespace Go.Proofs.YtiinkfejdnfonaaGreatDoor.Mb
open Go.RowKit Go.Proofs.YtiinkfejdnfonaaGreatDoor.Num Go.Proofs.YtiinkfejdnfonaaGreatDoor.NumC Go.Proofs.YtiinkfejdnfonaaGreatDoor.Mem Go.Proofs.YtiinkfejdnfonaaGreatDoor.Shape Go.Proofs.YtiinkfejdnfonaaGreatDoor.Utf Go.Proofs.YtiinkfejdnfonaaGreatDoor.Ops Go.Proofs.YtiinkfejdnfonaaGreatDoor.Leb Go.Proofs.YtiinkfejdnfonaaGreatDoor.Mo Go.Proofs.YtiinkfejdnfonaaGreatDoor.Bb Go.Proofs.YtiinkfejdnfonaaGreatDoor.NameC Go.Proofs.YtiinkfejdnfonaaGreatDoor.PutC
set_option linter.unusedVariables false
/-- append of a slice that can be read, as one step of a region that draws -/
theorem stepA {P : Program} {t e : TypeId} {z : Value} {size bytes base n c m c2 : Nat} {A X : Option Addr} {xs ys : List Value} {w : World} {ops : Array Oper} {o : Oper} {a : Act} {K : Act → World → Prop} {Q : Exit → Act → World → Prop} {E0 : Prop} (hgd : o.guard = none) (s x : Operand)
    (ho : o.op = .call { callee := .builtin .append, args := #[s, x], argTypes := #[t, t] }) (hs : a.eval s = .slice A n c) (hx : a.eval x = .slice X m c2)
    (E : Elem P t e z size bytes) (hown : Ow w base e size A n c xs) (hrd : Rd w w.heap.size size X m ys) (h1 : ∀ u ∈ ys, u.oneCell' = true)
    (hb : (n + m) * bytes ≤ 140737488355328) (hbase : base ≤ w.heap.size)
    (h : ∀ A' c' w', Ow w' base e size A' (n + m) c' (xs ++ ys) → w.grownBy w' (blk A) → (blk A' = blk A ∨ ∃ g, blk A' = some g ∧ w.heap.size ≤ g) → K (a.put o.dst (.slice A' (n + m) c')) w') :
    if Region.wanted o (yielded ops a.tmps) = true then Oper.wp P o a w K Q else E0 := by
  have hw : Region.wanted o (yielded ops a.tmps) = true := by simp [Region.wanted, hgd]
  rw [if_pos hw]
  obtain ⟨v', w', hrun, A', c', rfl, hw', hg, hbl⟩ := run_app (P := P) (w := w) E o.type hown X m c2 ys hrd h1 hb hbase
  unfold Oper.wp execOp
  simp only [ho, resolve, invoke, builtin, Sem.run_bind, Sem.run_pure, Result.andThen_ok, List.map_toArray, List.map_cons, List.map_nil, hs, hx, hrun]
  exact h A' c' w' hw' hg hbl
/-- a row of bytes of the call's own, and a variable -/
structure CH (w : World) (r : Nat) (cs : Array Value) (t : TypeId) (A : Option Addr) (N d : Nat) (L : List Int) (W : World) : Prop where
  bel : Below w.heap.size w W
  box : Blk W r cs t
  own : Ow W w.heap.size 5 1 A N d (by8 L)
  ty : t ≠ 5
theorem ne_ty {W : World} {base e size n c r : Nat} {A : Option Addr} {xs : List Value} {cs : Array Value} {t : TypeId} (ho : Ow W base e size A n c xs) (hk : Blk W r cs t) (ht : t ≠ e) : blk A ≠ some r := by
  intro hb
  rcases ho.2 with ⟨hv, h0⟩ | ⟨g, cap, cur, hv, _, hg, _⟩
  · injection hv with h1
    rw [h1] at hb
    cases hb
  · injection hv with h1
    rw [h1] at hb
    injection hb with hb
    simp only at hb
    subst hb
    unfold Blk at hk
    rw [hk] at hg
    injection hg with hg
    injection hg with _ h2
    exact ht h2
section
variable {w W W' : World} {r N d N' d' : Nat} {cs : Array Value} {t : TypeId} {A A' : Option Addr} {L L' M : List Int}
theorem bgrown {row : Option Nat} {b : Nat} (h : Blk W b cs t) (hg : W.grownBy W' row) (hr : row ≠ some b) : Blk W' b cs t := (hg.block b h.lt (fun e => hr e.symm)).trans h
theorem bdrewN {b : Nat} (h : Blk W b cs t) (k : Nat) : Blk (W.drewN k) b cs t := h
theorem CH.drewN (h : CH w r cs t A N d L W) (k : Nat) : CH w r cs t A N d L (W.drewN k) := ⟨bel_drewN h.bel k, h.box, h.own.drewN k, h.ty⟩
theorem CH.alloc (h : CH w r cs t A N d L W) (o : Obj) : CH w r cs t A N d L (W.alloc o) := ⟨h.bel.alloc h.bel.size o, h.box.alloc o, World.ownsRow.alloc h.own o, h.ty⟩
theorem CH.call (h : CH w r cs t A N d L W) (ho : Ow W' W.heap.size 5 1 A' N' d' (by8 L')) (hb : Below W.heap.size W W') : CH w r cs t A' N' d' L' W' :=
  ⟨bel_step h.bel hb h.bel.size, h.box.bel hb, ho.base_le h.bel.size, h.ty⟩
theorem CH.keep (h : CH w r cs t A N d L W) (hb : Below W.heap.size W W') : CH w r cs t A N d L W' := ⟨bel_step h.bel hb h.bel.size, h.box.bel hb, h.own.below hb (Nat.le_refl _), h.ty⟩
theorem CH.app (h : CH w r cs t A N d L W) (ho : Ow W' w.heap.size 5 1 A' N' d' (by8 L ++ by8 M)) (hg : W.grownBy W' (blk A)) : CH w r cs t A' N' d' (L ++ M) W' :=
  ⟨bel_grown h.bel hg h.bel.size (fun g hg => (h.own.blk_lt g hg).1), bgrown h.box hg (ne_ty h.own h.box h.ty), by rw [show by8 (L ++ M) = by8 L ++ by8 M by simp [by8]]; exact ho, h.ty⟩
end
/-- the same, beside literals that are made for the statement -/
structure CQ (w : World) (r : Nat) (cs : Array Value) (t : TypeId) (A : Option Addr) (N d : Nat) (L : List Int) (Q : List (Nat × Array Value)) (W : World) : Prop where
  ch : CH w r cs t A N d L W
  q : ∀ p ∈ Q, Blk W p.1 p.2 5 ∧ blk A ≠ some p.1
section
variable {w W W' : World} {r N d N' d' : Nat} {cs : Array Value} {t : TypeId} {A A' : Option Addr} {L L' M : List Int} {Q : List (Nat × Array Value)}
theorem CQ.al (h : CQ w r cs t A N d L Q W) (c : Array Value) : CQ w r cs t A N d L ((W.heap.size, c) :: Q) (W.alloc (.cells c 5)) :=
  ⟨h.ch.alloc _, fun p hp => by
    rcases List.mem_cons.1 hp with rfl | hp
    · exact ⟨Blk.new W c _, fun hb => by have := (h.ch.own.blk_lt _ hb).2; simp at this⟩
    · exact ⟨(h.q p hp).1.alloc _, (h.q p hp).2⟩⟩
theorem CQ.drew (h : CQ w r cs t A N d L Q W) : CQ w r cs t A N d L Q W.drew := ⟨h.ch.drewN 1, h.q⟩
theorem CQ.drewN (h : CQ w r cs t A N d L Q W) (k : Nat) : CQ w r cs t A N d L Q (W.drewN k) := ⟨h.ch.drewN k, h.q⟩
theorem CQ.call (h : CQ w r cs t A N d L Q W) (ho : Ow W' W.heap.size 5 1 A' N' d' (by8 L')) (hb : Below W.heap.size W W') : CQ w r cs t A' N' d' L' Q W' :=
  ⟨h.ch.call ho hb, fun p hp => ⟨(h.q p hp).1.bel hb, fun he => by have := (ho.blk_lt _ he).1; have := (h.q p hp).1.lt; omega⟩⟩
theorem CQ.keep (h : CQ w r cs t A N d L Q W) (hb : Below W.heap.size W W') : CQ w r cs t A N d L Q W' := ⟨h.ch.keep hb, fun p hp => ⟨(h.q p hp).1.bel hb, (h.q p hp).2⟩⟩
theorem CQ.app (h : CQ w r cs t A N d L Q W) (ho : Ow W' w.heap.size 5 1 A' N' d' (by8 L ++ by8 M)) (hg : W.grownBy W' (blk A)) (hl : blk A' = blk A ∨ ∃ g, blk A' = some g ∧ W.heap.size ≤ g) : CQ w r cs t A' N' d' (L ++ M) Q W' :=
  ⟨h.ch.app ho hg, fun p hp => ⟨bgrown (h.q p hp).1 hg (h.q p hp).2, fun he => by
    rcases hl with hl | ⟨g, hl, hge⟩
    · exact (h.q p hp).2 (hl ▸ he)
    · rw [hl] at he; injection he with he; have := (h.q p hp).1.lt; omega⟩⟩
theorem CQ.rdq (h : CQ w r cs t A N d L Q W) {q m : Nat} {c : Array Value} (hp : (q, c) ∈ Q) (hh : Hid (c.toList = by8 M ∧ M.length = m)) : Rd W W.heap.size 1 (some ⟨q, 0, none⟩) m (by8 M) := by
  obtain ⟨hc, rfl⟩ := hh.out
  have hk := (h.q _ hp).1
  refine ⟨by simp [by8], fun _ => ⟨q, 0, rfl, hk.lt, fun j u hu => ?_⟩⟩
  rw [Nat.zero_add, hk.cell j, ← Array.getElem?_toList, hc]
  exact hu
theorem CQ.owq (h : CQ w r cs t A N d L Q W) {q m : Nat} {c : Array Value} (hp : (q, c) ∈ Q) (hh : Hid (c.toList = by8 M ∧ M.length = m)) (hq : w.heap.size ≤ q) (hm : m ≤ 1000) : Ow W w.heap.size 5 1 (some ⟨q, 0, none⟩) m m (by8 M) := by
  obtain ⟨hc, rfl⟩ := hh.out
  have hs : c.size = M.length := by rw [← Array.length_toList, hc]; simp [by8]
  exact ⟨by simp [by8], .inr ⟨q, M.length, c, rfl, hq, (h.q _ hp).1, Nat.le_refl _, by unfold maxLen; omega, by omega, by rw [hc, Nat.mul_one]; exact List.take_of_length_le (by simp [by8])⟩⟩
theorem rdlit (W : World) {c : Array Value} {m : Nat} (hh : c.toList = by8 M ∧ M.length = m) : Rd (W.alloc (.cells c 5)) (W.alloc (.cells c 5)).heap.size 1 (some ⟨W.heap.size, 0, none⟩) m (by8 M) := by
  obtain ⟨hc, rfl⟩ := hh
  refine ⟨by simp [by8], fun _ => ⟨W.heap.size, 0, rfl, by simp, fun j u hu => ?_⟩⟩
  rw [Nat.zero_add, (Blk.new W c 5).cell j, ← Array.getElem?_toList, hc]
  exact hu
theorem CQ.mk0 (hb : Below w.heap.size w W) (hk : Blk W r cs t) (ho : Ow W w.heap.size 5 1 A N d (by8 L)) (ht : t ≠ 5) : CQ w r cs t A N d L [] W := ⟨⟨hb, hk, ho, ht⟩, fun p hp => by cases hp⟩
end
def datV (x : DV) : List Int := datB x.pl
def fsV (x : FV) : List Int := fsB x.pl
def fnV (x : FV) : List Int := fnB x.pl
/-- so far, in a loop over a list: the bytes of the first k -/
def SoFar {α : Type} (w : World) (f : α → List Int) (l : List α) (k : Nat) (A : Option Addr) (N d : Nat) (W : World) : Prop :=
  N = ((l.take k).flatMap f).length ∧ Ow W w.heap.size 5 1 A N d (by8 ((l.take k).flatMap f)) ∧ Below w.heap.size w W
theorem sName_b (A : Option Addr) (n c : Nat) (bs : List Int) (s : ByteArray) (w : World) (hr : Rd w w.heap.size 1 A n (by8 bs)) (hn : n ≤ 4194304) (hs : s.size ≤ 4194304) :
    Calls Tryz.prog 79 #[.slice A n c, .string s] w (Fresh 5 1 (n + (nameB s).length) (by8 (bs ++ nameB s)) w) := by
  have h := sPutName A n c bs s w hr hn hs
  rw [Nat.add_assoc, ← nameB_len, List.append_assoc] at h
  exact h
theorem iName_b (A : Option Addr) (n c : Nat) (bs : List Int) (s : ByteArray) (w : World) (hr : Rd w w.heap.size 1 A n (by8 bs)) (hn : n ≤ 4194304) (hs : s.size ≤ 4194304) :
    Calls Tryz.prog 47 #[.slice A n c, .string s] w (Fresh 5 1 (n + (nameB s).length) (by8 (bs ++ nameB s)) w) := by
  have h := iPutName A n c bs s w hr hn hs
  rw [Nat.add_assoc, ← nameB_len, List.append_assoc] at h
  exact h
end Go.Proofs.YtiinkfejdnfonaaGreatDoor.Mb
