/- The law on numbers that are read in pieces, walked: what is read is written in no more bytes. -/
import Derived.Test.YtflecejioaokmaaDrawG
import Derived.Test.YtflecejioaokmaaPutC
import Derived.Test.YtflecejioaokmaaGetC
import Derived.Test.YtflecejioaokmaaLebP
import Derived.Test.YtflecejioaokmaaOpen
import Derived.StillTailTactics
import Derived.Deep.RegionLaw
namespace Go.Proofs.Ytflecejioaokmaa
open Go.RowKit Go.Proofs.Ytflecejioaokmaa.Num Go.Proofs.Ytflecejioaokmaa.NumC Go.Proofs.Ytflecejioaokmaa.Mem Go.Proofs.Ytflecejioaokmaa.Draw Go.Proofs.Ytflecejioaokmaa.Leb Go.Proofs.Ytflecejioaokmaa.PutC
set_option linter.unusedVariables false

theorem cur_bel {w w' : World} {g : Nat} {A : Option Addr} {n c : Nat} {bs : List Int} (hc : Cur w g A n c bs) (hb : Below w.heap.size w w') : Cur w' g A n c bs :=
  cur_grown (row := none) hc ⟨hb.os, hb.tape, hb.output, hb.size, fun k hk _ => hb.block k hk⟩ (fun b e => by cases e)
theorem gr_bel {w0 w w' : World} {row : Option Nat} (h : w0.grownBy w row) (hb : Below w.heap.size w w') : w0.grownBy w' row :=
  ⟨hb.os.trans h.os, hb.tape.trans h.tape, hb.output.trans h.output, Nat.le_trans h.size hb.size, fun k hk hne => (hb.block k (Nat.lt_of_lt_of_le hk h.size)).trans (h.block k hk hne)⟩
theorem own_take {w : World} {base e n c m : Nat} {A : Option Addr} {xs : List Value} (h : Ow w base e 1 A n c xs) (hm : m ≤ n) : Ow w base e 1 A m c (xs.take m) := by
  have hl : xs.length = n := by have := h.1; omega
  refine ⟨by simp; omega, ?_⟩
  rcases h.2 with ⟨hv, h0⟩ | ⟨g, cap, cur, hv, hb, hg, hn, hc, hs, ht⟩
  · subst h0
    obtain rfl : m = 0 := by omega
    exact .inl ⟨hv, rfl⟩
  · injection hv with e1 _ e3
    subst e1; subst e3
    refine .inr ⟨g, c, cur, rfl, hb, hg, by omega, hc, hs, ?_⟩
    rw [← ht, List.take_take, Nat.mul_one, Nat.mul_one, Nat.min_eq_left (by omega)]
theorem byte_app {l m : List Int} (h : ∀ x ∈ l, 0 ≤ x ∧ x ≤ 255) (h' : ∀ x ∈ m, 0 ≤ x ∧ x ≤ 255) : ∀ x ∈ l ++ m, 0 ≤ x ∧ x ≤ 255 := fun x hx => (List.mem_append.1 hx).elim (h x) (h' x)
theorem byte_take {l : List Int} (h : ∀ x ∈ l, 0 ≤ x ∧ x ≤ 255) (m : Nat) : ∀ x ∈ l.take m, 0 ≤ x ∧ x ≤ 255 := fun x hx => h x (List.mem_of_mem_take hx)
theorem by8_take (l : List Int) (m : Nat) : (by8 l).take m = by8 (l.take m) := by simp [by8, List.map_take]
theorem putU_pos (x : Int) : 1 ≤ (putU 5 x).length := by
  rw [putU]; split <;> simp
theorem putS_pos (x : Int) : 1 ≤ (putS 5 x).length := by
  rw [putS]; split <;> simp
/-- bytes and a place, drawn -/
def LebG (g : Nat) (A : Option Addr) (n c : Nat) (bs : List Int) (w : World) (e : Ending) (w' : World) : Prop :=
  ∃ (B : Option Addr) (m d : Nat) (l : List Int) (a : Int), e = .returned (.tuple #[.slice B m d, .int .i64 a]) ∧ m ≤ 20 ∧ (∀ x ∈ l, 0 ≤ x ∧ x ≤ 255) ∧ Ow w' w.heap.size 5 1 B m d (by8 l) ∧ Cur w' g A n c bs ∧ w.grownBy w' (some g)
/-- 'append(out, x, y, ..)': the elements lie in a block of their own that was made for the call -/
theorem appM {P : Program} {t e : TypeId} {z : Value} {size bytes base n c m : Nat} {A : Option Addr} {xs : List Value} {w : World} {ops : Array Oper} {rest : List Oper} {o : Oper} {a : Act} {Q : Exit → Act → World → Prop} {cs : Array Value} (hgd : o.guard = none) (s x : Operand)
    (ho : o.op = .call { callee := .builtin .append, args := #[s, x], argTypes := #[t, t] }) (hs : a.eval s = .slice A n c) (hx : a.eval x = .slice (some ⟨w.heap.size, 0, none⟩) m m)
    (E : Elem P t e z size bytes) (hown : Ow w base e size A n c xs) (hcs : cs.size = m * size) (h1 : ∀ u ∈ cs.toList, u.oneCell' = true)
    (hb : (n + m) * bytes ≤ 140737488355328) (hbase : base ≤ w.heap.size)
    (h : ∀ A' c' w', Ow w' base e size A' (n + m) c' (xs ++ cs.toList) → w.grownBy w' (blk A) → (blk A' = blk A ∨ ∃ g, blk A' = some g ∧ w.heap.size ≤ g) → wpList P ops Q rest (a.put o.dst (.slice A' (n + m) c')) w') : wpList P ops Q (o :: rest) a (w.alloc (.cells cs e)) := by
  have hrd : Rd (w.alloc (.cells cs e)) (w.alloc (.cells cs e)).heap.size size (some ⟨w.heap.size, 0, none⟩) m cs.toList := by
    refine ⟨by simp [hcs], fun _ => ⟨w.heap.size, 0, rfl, by simp, fun j u hu => ?_⟩⟩
    rw [cell_of_row _ w.heap.size (0 + j) cs e (0, 0) (heap_alloc_new w _)]
    simpa using hu
  have ho2 : Ow (w.alloc (.cells cs e)) base e size A n c xs := World.ownsRow.alloc hown _
  refine app (w := w.alloc (.cells cs e)) hgd s x ho hs hx E ho2 hrd h1 hb (by simp; omega) (fun A' c' w' hw hg hbl => h A' c' w' hw ?_ ?_)
  · exact ⟨hg.os, hg.tape, hg.output, by have := hg.size; simp at this; omega, fun k hk hne => (hg.block k (by simp; omega) hne).trans (Below.heap_alloc w _ k hk)⟩
  · rcases hbl with hbl | ⟨g, hbl, hge⟩
    · exact .inl hbl
    · exact .inr ⟨g, hbl, by simp at hge; omega⟩
/-- append of elements that lie in a block made for the call, as one step of a region that draws -/
theorem stepM {P : Program} {t e : TypeId} {z : Value} {size bytes base n c m : Nat} {A : Option Addr} {xs : List Value} {w : World} {ops : Array Oper} {o : Oper} {a : Act} {K : Act → World → Prop} {Q : Exit → Act → World → Prop} {E0 : Prop} {cs : Array Value} (hgd : o.guard = none) (s x : Operand)
    (ho : o.op = .call { callee := .builtin .append, args := #[s, x], argTypes := #[t, t] }) (hs : a.eval s = .slice A n c) (hx : a.eval x = .slice (some ⟨w.heap.size, 0, none⟩) m m)
    (E : Elem P t e z size bytes) (hown : Ow w base e size A n c xs) (hcs : cs.size = m * size) (h1 : ∀ u ∈ cs.toList, u.oneCell' = true)
    (hb : (n + m) * bytes ≤ 140737488355328) (hbase : base ≤ w.heap.size)
    (h : ∀ A' c' w', Ow w' base e size A' (n + m) c' (xs ++ cs.toList) → w.grownBy w' (blk A) → K (a.put o.dst (.slice A' (n + m) c')) w') :
    if Region.wanted o (yielded ops a.tmps) = true then Oper.wp P o a (w.alloc (.cells cs e)) K Q else E0 := by
  have hw : Region.wanted o (yielded ops a.tmps) = true := by simp [Region.wanted, hgd]
  rw [if_pos hw]
  have hrd : Rd (w.alloc (.cells cs e)) (w.alloc (.cells cs e)).heap.size size (some ⟨w.heap.size, 0, none⟩) m cs.toList := by
    refine ⟨by simp [hcs], fun _ => ⟨w.heap.size, 0, rfl, by simp, fun j u hu => ?_⟩⟩
    rw [cell_of_row _ w.heap.size (0 + j) cs e (0, 0) (heap_alloc_new w _)]
    simpa using hu
  have ho2 : Ow (w.alloc (.cells cs e)) base e size A n c xs := World.ownsRow.alloc hown _
  obtain ⟨v', w', hrun, A', c', rfl, hw', hg, hbl⟩ := run_app (P := P) (w := w.alloc (.cells cs e)) E o.type ho2 _ m m cs.toList hrd h1 hb (by simp; omega)
  unfold Oper.wp execOp
  simp only [ho, resolve, invoke, builtin, Sem.run_bind, Sem.run_pure, Result.andThen_ok, List.map_toArray, List.map_cons, List.map_nil, hs, hx, hrun]
  exact h A' c' w' hw' ⟨hg.os, hg.tape, hg.output, by have := hg.size; simp at this; omega, fun k hk hne => (hg.block k (by simp; omega) hne).trans (Below.heap_alloc w _ k hk)⟩
theorem stepMx {P : Program} {t e : TypeId} {z : Value} {size bytes base n c m g : Nat} {A : Option Addr} {xs : List Value} {w : World} {ops : Array Oper} {o : Oper} {a : Act} {K : Act → World → Prop} {Q : Exit → Act → World → Prop} {E0 : Prop} {cs : Array Value} (hgd : o.guard = none) (s x : Operand)
    (ho : o.op = .call { callee := .builtin .append, args := #[s, x], argTypes := #[t, t] }) (hs : a.eval s = .slice A n c) (hx : a.eval x = .slice (some ⟨g, 0, none⟩) m m) (hg : g = w.heap.size)
    (E : Elem P t e z size bytes) (hown : Ow w base e size A n c xs) (hcs : cs.size = m * size) (h1 : ∀ u ∈ cs.toList, u.oneCell' = true)
    (hb : (n + m) * bytes ≤ 140737488355328) (hbase : base ≤ w.heap.size)
    (h : ∀ A' c' w', Ow w' base e size A' (n + m) c' (xs ++ cs.toList) → w.grownBy w' (blk A) → K (a.put o.dst (.slice A' (n + m) c')) w') :
    if Region.wanted o (yielded ops a.tmps) = true then Oper.wp P o a (w.alloc (.cells cs e)) K Q else E0 := by
  subst hg
  exact stepM hgd s x ho hs hx E hown hcs h1 hb hbase h
theorem ow_alloc {w : World} {base e size n c : Nat} {A : Option Addr} {xs : List Value} (h : Ow w base e size A n c xs) (o : Obj) : Ow (w.alloc o) base e size A n c xs := World.ownsRow.alloc h o
theorem lit8 (w : World) (g : Nat) (hg : g = w.heap.size) (j : Nat) (hj : j < 8) : ∃ v : Int, 0 ≤ v ∧ v ≤ 255 ∧ (w.alloc (.cells #[.int .u8 15, .int .u8 16, .int .u8 7, .int .u8 8, .int .u8 120, .int .u8 119, .int .u8 127, .int .u8 128] 5)).cell? ⟨g, j, none⟩ = some (.int .u8 v) := by
  subst hg
  rcases (by omega : j = 0 ∨ j = 1 ∨ j = 2 ∨ j = 3 ∨ j = 4 ∨ j = 5 ∨ j = 6 ∨ j = 7) with rfl | rfl | rfl | rfl | rfl | rfl | rfl | rfl
  all_goals
    refine ⟨_, ?_, ?_, (by rw [cell_of_row _ w.heap.size _ _ _ (0, 0) (heap_alloc_new w _)]; rfl)⟩
    all_goals decide
theorem own_capp {w : World} {base e size n c : Nat} {A : Option Addr} {xs : List Value} (h : Ow w base e size A n c xs) : n ≤ c := by
  rcases h.2 with ⟨hv, h0⟩ | ⟨g, cap, cur, hv, _, _, hc, _⟩
  · omega
  · injection hv with _ _ h3
    omega
theorem get_b8 {w : World} {B n : Nat} {A : Option Addr} {l : List Int} (h : Rd w B 1 A n (by8 l)) (k : Nat) (hk : k < n) :
    ∃ b off, A = some ⟨b, off, none⟩ ∧ ∃ x, l[k]? = some x ∧ w.cell? ⟨b, off + k, none⟩ = some (.int .u8 x) := by
  obtain ⟨b, off, rfl, hb, hcell⟩ := h.2 (by omega)
  have hl : k < l.length := by have := h.1; simp only [by8, List.length_map] at this; omega
  exact ⟨b, off, rfl, l[k], List.getElem?_eq_getElem hl, hcell _ _ (by8_get hl)⟩
theorem or8 (x : Int) : ∃ y, bits .or .u8 x 128 = y ∧ 0 ≤ y ∧ y ≤ 255 := by
  refine ⟨_, rfl, ?_⟩
  have h : bits .or .u8 x 128 = IntKind.u8.wrap ((BitVec.ofInt 8 x ||| BitVec.ofInt 8 128).toNat : Int) := rfl
  rw [h, IntKind.wrap_u8]
  omega
theorem one8c (a b : Int) : ∀ u ∈ (#[Value.int .u8 a, Value.int .u8 b] : Array Value).toList, u.oneCell' = true := by
  intro u hu
  simp only [List.mem_cons, List.not_mem_nil, or_false] at hu
  rcases hu with rfl | rfl <;> rfl
theorem five8c (a b c d e : Int) : ∀ u ∈ (#[Value.int .u8 a, Value.int .u8 b, Value.int .u8 c, Value.int .u8 d, Value.int .u8 e] : Array Value).toList, u.oneCell' = true := by
  intro u hu
  simp only [List.mem_cons, List.not_mem_nil, or_false] at hu
  rcases hu with rfl | rfl | rfl | rfl | rfl <;> rfl
theorem own_ne {w1 w : World} {g e n c : Nat} {A : Option Addr} {xs : List Value} (ho : Ow w1 w.heap.size e 1 A n c xs) (hg : g < w.heap.size) : blk A = none ∨ blk A ≠ some g := by
  rcases hbk : blk A with _ | b
  · exact .inl rfl
  · exact .inr (by have := (ho.blk_lt b hbk).1; simp; omega)
/-- what l02Leb holds when it has written its number -/
abbrev Held_ := True
abbrev lit8c : Obj := .cells #[.int .u8 15, .int .u8 16, .int .u8 7, .int .u8 8, .int .u8 120, .int .u8 119, .int .u8 127, .int .u8 128] 5
def Pick (g : Nat) (A : Option Addr) (n c : Nat) (bs : List Int) (w : World) (A4 : Option Addr) (m d4 : Nat) (l : List Int) (b : Nat) (W : World) (e : Ending) (j : Nat) : Prop :=
  e = .returned (.int .i64 j) ∧ (j : Int) < 8 ∧ (0 : Int) ≤ j ∧ ∃ v : Int, 0 ≤ v ∧ v ≤ 255 ∧ W.cell? ⟨b, j, none⟩ = some (.int .u8 v) ∧ Cur W g A n c bs ∧ Ow W w.heap.size 5 1 A4 m d4 (by8 l) ∧ w.grownBy W (some g)
section
variable (g : Nat) (A : Option Addr) (n c : Nat) (bs : List Int) (w w5 : World) (A4 : Option Addr) (m d4 : Nat) (l : List Int) (hc5 : Cur w5 g A n c bs) (ho : Ow w5 w.heap.size 5 1 A4 m d4 (by8 l)) (hg : w.grownBy w5 (some g)) (hgl : g < w.heap.size)
include hc5 ho hg hgl
theorem pick_b : Calls Try.prog 72 #[.pointer (some ⟨g, 0, none⟩), .int .i64 8] w5.drew fun e w6 => ∃ j : Nat, Pick g A n c bs w A4 m d4 l w6.heap.size (w6.alloc lit8c) e j := by
  refine (below_g g A n c bs w5.drew _ (cur_drewN hc5 1) (World.grownBy.refl _ _) 8 (by omega)).mono ?_
  rintro e w6 ⟨k6, rfl, ⟨p6, q6⟩, hc6, hg6⟩
  obtain ⟨j, rfl⟩ : ∃ j : Nat, k6 = j := ⟨k6.toNat, by omega⟩
  obtain ⟨v, v0, v1, hcell⟩ := lit8 w6 w6.heap.size rfl j (by omega)
  exact ⟨j, rfl, q6, p6, v, v0, v1, hcell, cur_alloc hc6 _, ow_alloc ((ho.drewN 1).kept hg6 (own_ne ho hgl)) _, gr_alloc (grown_trans (gr_drewN hg 1) hg6) _⟩
theorem pick_a : Calls Try.prog 72 #[.pointer (some ⟨g, 0, none⟩), .int .i64 8] (w5.drew.alloc lit8c) fun e w6 => ∃ j : Nat, Pick g A n c bs w A4 m d4 l w5.heap.size w6 e j := by
  refine (below_g g A n c bs (w5.drew.alloc lit8c) _ (cur_alloc (cur_drewN hc5 1) _) (World.grownBy.refl _ _) 8 (by omega)).mono ?_
  rintro e w6 ⟨k6, rfl, ⟨p6, q6⟩, hc6, hg6⟩
  obtain ⟨j, rfl⟩ : ∃ j : Nat, k6 = j := ⟨k6.toNat, by omega⟩
  obtain ⟨v, v0, v1, hcell0⟩ := lit8 w5.drew w5.heap.size rfl j (by omega)
  have hlt := cur_lt hc5
  have hcell : w6.cell? ⟨w5.heap.size, j, none⟩ = some (.int .u8 v) := (World.cell?_of_block (a := ⟨w5.heap.size, j, none⟩) (hg6.block w5.heap.size (by simp) (fun e => by injection e with e; omega))).trans hcell0
  exact ⟨j, rfl, q6, p6, v, v0, v1, hcell, hc6, (ow_alloc (ho.drewN 1) _).kept hg6 (own_ne ho hgl), grown_trans (gr_alloc (gr_drewN hg 1) _) hg6⟩
end
set_option maxRecDepth 100000 in
set_option maxHeartbeats 4000000 in
theorem leb_g (g : Nat) (A : Option Addr) (n c : Nat) (bs : List Int) (w : World) (hc : Cur w g A n c bs) :
    Calls Try.prog 47 #[.pointer (some ⟨g, 0, none⟩)] w (LebG g A n c bs w) := by
  have hgl := cur_lt hc
  go_enter Try.func47, Try.ntmps47
  go_wp2_with fail
  refine (bytes_g g A n c bs w 3 (by omega) hc).mono ?_
  rintro e w1 ⟨B1, d1, l1, rfl, hl1, hx1, ho1, hc1, hg1⟩
  clear hc
  have HX1 := hide hx1
  have HO1 := hide ho1
  have hl1' : (l1.length : Int) ≤ 3 := by omega
  clear hx1 ho1
  go_wp2_with fail
  refine (below_g g A n c bs w1 w1 hc1 (World.grownBy.refl _ _) 2 (by omega)).mono ?_
  rintro e w2 ⟨k2, rfl, ⟨p2, q2⟩, hc2, hg2⟩
  have HO2 := hide (HO1.out.kept hg2 (own_ne HO1.out hgl))
  have HG2 := hide (grown_trans hg1 hg2)
  clear hc1 hg1 hg2 HO1
  rcases (by omega : k2 = 0 ∨ k2 = 1) with rfl | rfl
  · go_wp2_with fail
    refine (raw_g g A n c bs w2 w2 hc2 (World.grownBy.refl _ _)).mono ?_
    rintro e w3 ⟨x, rfl, _, hc3, hg3⟩
    have HO3 := hide (HO2.out.kept hg3 (own_ne HO2.out hgl))
    have HG3 := hide (grown_trans HG2.out hg3)
    clear hc2 hg3 HO2 HG2 p2 q2
    go_wp2_with fail
    refine (sPutU B1 l1.length d1 l1 x w3 HO3.out.rd (by omega)).mono ?_
    rintro e w4 ⟨A4, d4, rfl, ho4, hb4⟩
    obtain ⟨P, hP⟩ : ∃ P, putU 5 (x % 4294967296) = P := ⟨_, rfl⟩
    have hP1 : 1 ≤ P.length := by rw [← hP]; exact putU_pos _
    have hP5 : P.length ≤ 5 := by rw [← hP]; exact putU_le 5 _
    have hPx : ∀ y ∈ P, 0 ≤ y ∧ y ≤ 255 := by rw [← hP]; exact putU_byte 5 _ (mod_bd x).1
    rw [hP] at ho4 ⊢
    obtain ⟨l, hl⟩ : ∃ l, l1 ++ P = l := ⟨_, rfl⟩
    obtain ⟨m, hm⟩ : ∃ m, l1.length + P.length = m := ⟨_, rfl⟩
    rw [hl, hm] at ho4
    rw [hm]
    have HL := hide (show l.length = m by rw [← hl, ← hm]; simp)
    have HX4 := hide (show ∀ y ∈ l, 0 ≤ y ∧ y ≤ 255 by rw [← hl]; exact byte_app HX1.out hPx)
    have HO4 := hide (ho4.base_le HG3.out.size)
    have HC4 := hide (cur_bel hc3 hb4)
    have HG4 := hide (gr_bel HG3.out hb4)
    have hcp := own_capp ho4
    have hmc : (m : Int) ≤ d4 := by omega
    have hm1 : (1 : Int) ≤ m := by omega
    have hm8 : (m : Int) ≤ 8 := by omega
    have hat : (l1.length : Int) ≤ m := by omega
    obtain ⟨q, hq⟩ : ∃ q, l1.length = q := ⟨_, rfl⟩
    rw [hq] at hat hl1' ⊢
    have hqd : (q : Int) ≤ d4 := by omega
    clear hP hcp hP1 hP5 hPx hl hm ho4 hb4 hc3 HO3 HG3 HX1 hq hl1
    go_wp2_with fail
    refine (below_g g A n c bs w4 w4 HC4.out (World.grownBy.refl _ _) 8 (by omega)).mono ?_
    rintro e w5 ⟨k, rfl, ⟨p5, q5⟩, hc5, hg5⟩
    have HO5 := hide (HO4.out.kept hg5 (own_ne HO4.out hgl))
    have HG5 := hide (grown_trans HG4.out hg5)
    clear hg5 HO4 HG4 HC4
    rcases (by omega : k = 0 ∨ k = 1 ∨ k = 2 ∨ k = 3 ∨ 4 ≤ k) with rfl | rfl | rfl | rfl | h4
    · obtain ⟨r, rfl⟩ : ∃ r, m = r + 1 := ⟨m - 1, by omega⟩
      obtain ⟨gb, off, rfl, v, hv, hcl⟩ := get_b8 HO5.out.rd r (by omega)
      have hrd : (r : Int) ≤ d4 := by omega
      have hr0 : (0 : Int) ≤ r := by omega
      have hrr : (r : Int) < (r : Int) + 1 := by omega
      have hwr : IntKind.i64.wrap (r : Int) = r := by rw [IntKind.wrap_i64]; omega
      obtain ⟨v2, hv2, v20, v21⟩ := or8 v
      go_wp2_with fail
      have HO5d := hide (HO5.out.drewN 1)
      have HG5d := hide (gr_drewN HG5.out 1)
      go_region_law (first | (refine stepM rfl _ _ rfl rfl rfl E8 (own_take HO5d.out (show r ≤ r + 1 by omega)) rfl (one8g _) (by omega) HG5d.out.size ?_; intro B7 d7 w7 ho7 hg7))
      have HO6 := hide (show Ow w7 w.heap.size 5 1 B7 (r + 1) d7 (by8 (l.take r ++ [v2])) by simpa [by8, List.map_take] using ho7)
      have HX6 := hide (byte_app (byte_take HX4.out r) (show ∀ y ∈ [v2], 0 ≤ y ∧ y ≤ 255 by simp; omega))
      have HC6 := hide (cur_grown (cur_drewN hc5 1) hg7 (fun b hb => by have := (HO5.out.blk_lt b hb).1; omega))
      have HG6 := hide (gr_new HG5d.out hg7 (fun b hb => (HO5.out.blk_lt b hb).1))
      clear ho7 hg7 hc5
      go_wp2_with fail
      refine (below_g g A n c bs w7 w7 HC6.out (World.grownBy.refl _ _) 10 (by omega)).mono ?_
      rintro e wz ⟨k7, rfl, ⟨p7, q7⟩, hc7, hg7⟩
      have HOz := hide (HO6.out.kept hg7 (own_ne HO6.out hgl))
      have HGz := hide (grown_trans HG6.out hg7)
      clear hg7
      by_cases h7 : k7 = 0
      · subst h7
        go_wp2_with fail
        refine (raw_g g A n c bs wz wz hc7 (World.grownBy.refl _ _)).mono ?_
        rintro e w8 ⟨x8, rfl, _, hc8, hg8⟩
        have HO8 := hide (HOz.out.kept hg8 (own_ne HOz.out hgl))
        have HG8 := hide (grown_trans HGz.out hg8)
        clear hg8 hc7
        go_wp2_with fail
        go_ret2
        exact ⟨_, _, _, _, _, rfl, by omega, HX6.out, HO8.out, hc8, HG8.out⟩
      · have hk7 : (k7 == 0) = false := by simpa using h7
        go_wp2_with fail
        go_ret2
        exact ⟨_, _, _, _, _, rfl, by omega, HX6.out, HOz.out, hc7, HGz.out⟩
    · go_wp2_with fail
      have hc5d := cur_drewN hc5 1
      go_region_law (first
        | (refine stepM rfl _ _ rfl rfl rfl E8 (own_take HO6.out (by omega)) rfl (five8c _ _ _ _ _) (by omega) HG6.out.size ?_; intro B7 d7 w7 ho7 hg7)
        | (go_simp
           go_at_call 76
           refine (byte_g g A n c bs w5.drew _ hc5d (World.grownBy.refl _ _)).mono ?_
           rintro e w6 ⟨x6, rfl, ⟨x60, x61⟩, hc6, hg6⟩
           have HO6 := hide ((HO5.out.drewN 1).kept hg6 (own_ne HO5.out hgl))
           have HG6 := hide (grown_trans (gr_drewN HG5.out 1) hg6)
           have h256 : IntKind.u8.wrap x6 = x6 := by rw [IntKind.wrap_u8]; omega))
      have HO7 := hide (show Ow w7 w.heap.size 5 1 B7 (q + 5) d7 (by8 (l.take q ++ [128, 128, 128, 128, x6])) by simpa [by8, List.map_take, h256] using ho7)
      have HX7 := hide (byte_app (byte_take HX4.out q) (show ∀ y ∈ [(128 : Int), 128, 128, 128, x6], 0 ≤ y ∧ y ≤ 255 by simp; omega))
      have HC7 := hide (cur_grown hc6 hg7 (fun b hb => by have := (HO6.out.blk_lt b hb).1; omega))
      have HG7 := hide (gr_new HG6.out hg7 (fun b hb => (HO6.out.blk_lt b hb).1))
      clear ho7 hg7 hc5 hc6 hg6
      go_wp2_with fail
      refine (below_g g A n c bs w7 w7 HC7.out (World.grownBy.refl _ _) 10 (by omega)).mono ?_
      rintro e wz ⟨k7, rfl, ⟨p7, q7⟩, hc7, hg7⟩
      have HOz := hide (HO7.out.kept hg7 (own_ne HO7.out hgl))
      have HGz := hide (grown_trans HG7.out hg7)
      clear hg7
      by_cases h7 : k7 = 0
      · subst h7
        go_wp2_with fail
        refine (raw_g g A n c bs wz wz hc7 (World.grownBy.refl _ _)).mono ?_
        rintro e w8 ⟨x8, rfl, _, hc8, hg8⟩
        have HO8 := hide (HOz.out.kept hg8 (own_ne HOz.out hgl))
        have HG8 := hide (grown_trans HGz.out hg8)
        clear hg8 hc7
        go_wp2_with fail
        go_ret2
        exact ⟨_, _, _, _, _, rfl, by omega, HX7.out, HO8.out, hc8, HG8.out⟩
      · have hk7 : (k7 == 0) = false := by simpa using h7
        go_wp2_with fail
        go_ret2
        exact ⟨_, _, _, _, _, rfl, by omega, HX7.out, HOz.out, hc7, HGz.out⟩
    · go_wp2_with fail
      go_region_law (first
        | (refine stepMx rfl _ _ rfl rfl rfl (by simp) E8 (own_take HO6.out (by omega)) rfl (five8c _ _ _ _ _) (by omega) HG6.out.size ?_; intro B7 d7 w7 ho7 hg7)
        | (go_simp
           go_at_call 72
           refine (pick_b g A n c bs w w5 A4 m d4 l hc5 HO5.out HG5.out hgl).mono ?_
           rintro e w6 ⟨j, rfl, hj8, hj0, v, v0, v1, hcell, hc6, ho6, hg6⟩
           have HC6 := hide hc6
           have HO6 := hide ho6
           have HG6 := hide hg6)
        | (go_simp
           go_at_call 72
           refine (pick_a g A n c bs w w5 A4 m d4 l hc5 HO5.out HG5.out hgl).mono ?_
           rintro e w6 ⟨j, rfl, hj8, hj0, v, v0, v1, hcell, hc6, ho6, hg6⟩
           have HC6 := hide hc6
           have HO6 := hide ho6
           have HG6 := hide hg6))
      all_goals
        have HO7 := hide (show Ow w7 w.heap.size 5 1 B7 (q + 5) d7 (by8 (l.take q ++ [255, 255, 255, 255, v])) by simpa [by8, List.map_take] using ho7)
        have HX7 := hide (byte_app (byte_take HX4.out q) (show ∀ y ∈ [(255 : Int), 255, 255, 255, v], 0 ≤ y ∧ y ≤ 255 by simp; omega))
        have HC7 := hide (cur_grown HC6.out hg7 (fun b hb => by have := (HO6.out.blk_lt b hb).1; omega))
        have HG7 := hide (gr_new HG6.out hg7 (fun b hb => (HO6.out.blk_lt b hb).1))
        clear ho7 hg7 hc5 hc6 hg6 ho6
        go_wp2_with fail
        refine (below_g g A n c bs w7 w7 HC7.out (World.grownBy.refl _ _) 10 (by omega)).mono ?_
        rintro e wz ⟨k7, rfl, ⟨p7, q7⟩, hc7, hg7⟩
        have HOz := hide (HO7.out.kept hg7 (own_ne HO7.out hgl))
        have HGz := hide (grown_trans HG7.out hg7)
        clear hg7
        by_cases h7 : k7 = 0
        · subst h7
          go_wp2_with fail
          refine (raw_g g A n c bs wz wz hc7 (World.grownBy.refl _ _)).mono ?_
          rintro e w8 ⟨x8, rfl, _, hc8, hg8⟩
          have HO8 := hide (HOz.out.kept hg8 (own_ne HOz.out hgl))
          have HG8 := hide (grown_trans HGz.out hg8)
          clear hg8 hc7
          go_wp2_with fail
          go_ret2
          exact ⟨_, _, _, _, _, rfl, by omega, HX7.out, HO8.out, hc8, HG8.out⟩
        · have hk7 : (k7 == 0) = false := by simpa using h7
          go_wp2_with fail
          go_ret2
          exact ⟨_, _, _, _, _, rfl, by omega, HX7.out, HOz.out, hc7, HGz.out⟩
    · go_wp2_with (at_builtin; refine appM rfl _ _ rfl rfl rfl E8 (own_take HO5.out (by omega)) rfl (one8c _ _) (by omega) HG5.out.size ?_; intro B6 d6 w6 ho6 hg6 hl6)
      have HO6 := hide (show Ow w6 w.heap.size 5 1 B6 (q + 2) d6 (by8 (l.take q ++ [128, 0])) by simpa [by8, List.map_take] using ho6)
      have HX6 := hide (byte_app (byte_take HX4.out q) (show ∀ y ∈ [(128 : Int), 0], 0 ≤ y ∧ y ≤ 255 by simp))
      have HC6 := hide (cur_grown hc5 hg6 (fun b hb => by have := (HO5.out.blk_lt b hb).1; omega))
      have HG6 := hide (gr_new HG5.out hg6 (fun b hb => (HO5.out.blk_lt b hb).1))
      clear ho6 hg6 hl6 hc5
      refine (below_g g A n c bs w6 w6 HC6.out (World.grownBy.refl _ _) 10 (by omega)).mono ?_
      rintro e wz ⟨k7, rfl, ⟨p7, q7⟩, hc7, hg7⟩
      have HOz := hide (HO6.out.kept hg7 (own_ne HO6.out hgl))
      have HGz := hide (grown_trans HG6.out hg7)
      clear hg7
      by_cases h7 : k7 = 0
      · subst h7
        go_wp2_with fail
        refine (raw_g g A n c bs wz wz hc7 (World.grownBy.refl _ _)).mono ?_
        rintro e w8 ⟨x8, rfl, _, hc8, hg8⟩
        have HO8 := hide (HOz.out.kept hg8 (own_ne HOz.out hgl))
        have HG8 := hide (grown_trans HGz.out hg8)
        clear hg8 hc7
        go_wp2_with fail
        go_ret2
        exact ⟨_, _, _, _, _, rfl, by omega, HX6.out, HO8.out, hc8, HG8.out⟩
      · have hk7 : (k7 == 0) = false := by simpa using h7
        go_wp2_with fail
        go_ret2
        exact ⟨_, _, _, _, _, rfl, by omega, HX6.out, HOz.out, hc7, HGz.out⟩
    · have HC6 := hide hc5
      clear hc5
      go_wp2_with fail
      refine (below_g g A n c bs w5 w5 HC6.out (World.grownBy.refl _ _) 10 (by omega)).mono ?_
      rintro e wz ⟨k7, rfl, ⟨p7, q7⟩, hc7, hg7⟩
      have HOz := hide (HO5.out.kept hg7 (own_ne HO5.out hgl))
      have HGz := hide (grown_trans HG5.out hg7)
      clear hg7
      by_cases h7 : k7 = 0
      · subst h7
        go_wp2_with fail
        refine (raw_g g A n c bs wz wz hc7 (World.grownBy.refl _ _)).mono ?_
        rintro e w8 ⟨x8, rfl, _, hc8, hg8⟩
        have HO8 := hide (HOz.out.kept hg8 (own_ne HOz.out hgl))
        have HG8 := hide (grown_trans HGz.out hg8)
        clear hg8 hc7
        go_wp2_with fail
        go_ret2
        exact ⟨_, _, _, _, _, rfl, by omega, HX4.out, HO8.out, hc8, HG8.out⟩
      · have hk7 : (k7 == 0) = false := by simpa using h7
        go_wp2_with fail
        go_ret2
        exact ⟨_, _, _, _, _, rfl, by omega, HX4.out, HOz.out, hc7, HGz.out⟩
  · go_wp2_with fail
    refine (raw_g g A n c bs w2 w2 hc2 (World.grownBy.refl _ _)).mono ?_
    rintro e w3 ⟨x, rfl, _, hc3, hg3⟩
    have HO3 := hide (HO2.out.kept hg3 (own_ne HO2.out hgl))
    have HG3 := hide (grown_trans HG2.out hg3)
    clear hc2 hg3 HO2 HG2 p2 q2
    go_wp2_with fail
    refine (sPutS B1 l1.length d1 l1 x w3 HO3.out.rd (by omega)).mono ?_
    rintro e w4 ⟨A4, d4, rfl, ho4, hb4⟩
    obtain ⟨P, hP⟩ : ∃ P, putS 5 (wrap32 x) = P := ⟨_, rfl⟩
    have hP1 : 1 ≤ P.length := by rw [← hP]; exact putS_pos _
    have hP5 : P.length ≤ 5 := by rw [← hP]; exact putS_le 5 _
    have hPx : ∀ y ∈ P, 0 ≤ y ∧ y ≤ 255 := by rw [← hP]; exact putS_byte 5 _
    rw [hP] at ho4 ⊢
    obtain ⟨l, hl⟩ : ∃ l, l1 ++ P = l := ⟨_, rfl⟩
    obtain ⟨m, hm⟩ : ∃ m, l1.length + P.length = m := ⟨_, rfl⟩
    rw [hl, hm] at ho4
    rw [hm]
    have HL := hide (show l.length = m by rw [← hl, ← hm]; simp)
    have HX4 := hide (show ∀ y ∈ l, 0 ≤ y ∧ y ≤ 255 by rw [← hl]; exact byte_app HX1.out hPx)
    have HO4 := hide (ho4.base_le HG3.out.size)
    have HC4 := hide (cur_bel hc3 hb4)
    have HG4 := hide (gr_bel HG3.out hb4)
    have hcp := own_capp ho4
    have hmc : (m : Int) ≤ d4 := by omega
    have hm1 : (1 : Int) ≤ m := by omega
    have hm8 : (m : Int) ≤ 8 := by omega
    have hat : (l1.length : Int) ≤ m := by omega
    obtain ⟨q, hq⟩ : ∃ q, l1.length = q := ⟨_, rfl⟩
    rw [hq] at hat hl1' ⊢
    have hqd : (q : Int) ≤ d4 := by omega
    clear hP hcp hP1 hP5 hPx hl hm ho4 hb4 hc3 HO3 HG3 HX1 hq hl1
    go_wp2_with fail
    refine (below_g g A n c bs w4 w4 HC4.out (World.grownBy.refl _ _) 8 (by omega)).mono ?_
    rintro e w5 ⟨k, rfl, ⟨p5, q5⟩, hc5, hg5⟩
    have HO5 := hide (HO4.out.kept hg5 (own_ne HO4.out hgl))
    have HG5 := hide (grown_trans HG4.out hg5)
    clear hg5 HO4 HG4 HC4
    rcases (by omega : k = 0 ∨ k = 1 ∨ k = 2 ∨ k = 3 ∨ 4 ≤ k) with rfl | rfl | rfl | rfl | h4
    · obtain ⟨r, rfl⟩ : ∃ r, m = r + 1 := ⟨m - 1, by omega⟩
      obtain ⟨gb, off, rfl, v, hv, hcl⟩ := get_b8 HO5.out.rd r (by omega)
      have hrd : (r : Int) ≤ d4 := by omega
      have hr0 : (0 : Int) ≤ r := by omega
      have hrr : (r : Int) < (r : Int) + 1 := by omega
      have hwr : IntKind.i64.wrap (r : Int) = r := by rw [IntKind.wrap_i64]; omega
      obtain ⟨v2, hv2, v20, v21⟩ := or8 v
      go_wp2_with fail
      have HO5d := hide (HO5.out.drewN 1)
      have HG5d := hide (gr_drewN HG5.out 1)
      go_region_law (first | (refine stepM rfl _ _ rfl rfl rfl E8 (own_take HO5d.out (show r ≤ r + 1 by omega)) rfl (one8g _) (by omega) HG5d.out.size ?_; intro B7 d7 w7 ho7 hg7))
      have HO6 := hide (show Ow w7 w.heap.size 5 1 B7 (r + 1) d7 (by8 (l.take r ++ [v2])) by simpa [by8, List.map_take] using ho7)
      have HX6 := hide (byte_app (byte_take HX4.out r) (show ∀ y ∈ [v2], 0 ≤ y ∧ y ≤ 255 by simp; omega))
      have HC6 := hide (cur_grown (cur_drewN hc5 1) hg7 (fun b hb => by have := (HO5.out.blk_lt b hb).1; omega))
      have HG6 := hide (gr_new HG5d.out hg7 (fun b hb => (HO5.out.blk_lt b hb).1))
      clear ho7 hg7 hc5
      go_wp2_with fail
      refine (below_g g A n c bs w7 w7 HC6.out (World.grownBy.refl _ _) 10 (by omega)).mono ?_
      rintro e wz ⟨k7, rfl, ⟨p7, q7⟩, hc7, hg7⟩
      have HOz := hide (HO6.out.kept hg7 (own_ne HO6.out hgl))
      have HGz := hide (grown_trans HG6.out hg7)
      clear hg7
      by_cases h7 : k7 = 0
      · subst h7
        go_wp2_with fail
        refine (raw_g g A n c bs wz wz hc7 (World.grownBy.refl _ _)).mono ?_
        rintro e w8 ⟨x8, rfl, _, hc8, hg8⟩
        have HO8 := hide (HOz.out.kept hg8 (own_ne HOz.out hgl))
        have HG8 := hide (grown_trans HGz.out hg8)
        clear hg8 hc7
        go_wp2_with fail
        go_ret2
        exact ⟨_, _, _, _, _, rfl, by omega, HX6.out, HO8.out, hc8, HG8.out⟩
      · have hk7 : (k7 == 0) = false := by simpa using h7
        go_wp2_with fail
        go_ret2
        exact ⟨_, _, _, _, _, rfl, by omega, HX6.out, HOz.out, hc7, HGz.out⟩
    · go_wp2_with fail
      have hc5d := cur_drewN hc5 1
      go_region_law (first
        | (refine stepM rfl _ _ rfl rfl rfl E8 (own_take HO6.out (by omega)) rfl (five8c _ _ _ _ _) (by omega) HG6.out.size ?_; intro B7 d7 w7 ho7 hg7)
        | (go_simp
           go_at_call 76
           refine (byte_g g A n c bs w5.drew _ hc5d (World.grownBy.refl _ _)).mono ?_
           rintro e w6 ⟨x6, rfl, ⟨x60, x61⟩, hc6, hg6⟩
           have HO6 := hide ((HO5.out.drewN 1).kept hg6 (own_ne HO5.out hgl))
           have HG6 := hide (grown_trans (gr_drewN HG5.out 1) hg6)
           have h256 : IntKind.u8.wrap x6 = x6 := by rw [IntKind.wrap_u8]; omega))
      have HO7 := hide (show Ow w7 w.heap.size 5 1 B7 (q + 5) d7 (by8 (l.take q ++ [128, 128, 128, 128, x6])) by simpa [by8, List.map_take, h256] using ho7)
      have HX7 := hide (byte_app (byte_take HX4.out q) (show ∀ y ∈ [(128 : Int), 128, 128, 128, x6], 0 ≤ y ∧ y ≤ 255 by simp; omega))
      have HC7 := hide (cur_grown hc6 hg7 (fun b hb => by have := (HO6.out.blk_lt b hb).1; omega))
      have HG7 := hide (gr_new HG6.out hg7 (fun b hb => (HO6.out.blk_lt b hb).1))
      clear ho7 hg7 hc5 hc6 hg6
      go_wp2_with fail
      refine (below_g g A n c bs w7 w7 HC7.out (World.grownBy.refl _ _) 10 (by omega)).mono ?_
      rintro e wz ⟨k7, rfl, ⟨p7, q7⟩, hc7, hg7⟩
      have HOz := hide (HO7.out.kept hg7 (own_ne HO7.out hgl))
      have HGz := hide (grown_trans HG7.out hg7)
      clear hg7
      by_cases h7 : k7 = 0
      · subst h7
        go_wp2_with fail
        refine (raw_g g A n c bs wz wz hc7 (World.grownBy.refl _ _)).mono ?_
        rintro e w8 ⟨x8, rfl, _, hc8, hg8⟩
        have HO8 := hide (HOz.out.kept hg8 (own_ne HOz.out hgl))
        have HG8 := hide (grown_trans HGz.out hg8)
        clear hg8 hc7
        go_wp2_with fail
        go_ret2
        exact ⟨_, _, _, _, _, rfl, by omega, HX7.out, HO8.out, hc8, HG8.out⟩
      · have hk7 : (k7 == 0) = false := by simpa using h7
        go_wp2_with fail
        go_ret2
        exact ⟨_, _, _, _, _, rfl, by omega, HX7.out, HOz.out, hc7, HGz.out⟩
    · go_wp2_with fail
      go_region_law (first
        | (refine stepMx rfl _ _ rfl rfl rfl (by simp) E8 (own_take HO6.out (by omega)) rfl (five8c _ _ _ _ _) (by omega) HG6.out.size ?_; intro B7 d7 w7 ho7 hg7)
        | (go_simp
           go_at_call 72
           refine (pick_b g A n c bs w w5 A4 m d4 l hc5 HO5.out HG5.out hgl).mono ?_
           rintro e w6 ⟨j, rfl, hj8, hj0, v, v0, v1, hcell, hc6, ho6, hg6⟩
           have HC6 := hide hc6
           have HO6 := hide ho6
           have HG6 := hide hg6)
        | (go_simp
           go_at_call 72
           refine (pick_a g A n c bs w w5 A4 m d4 l hc5 HO5.out HG5.out hgl).mono ?_
           rintro e w6 ⟨j, rfl, hj8, hj0, v, v0, v1, hcell, hc6, ho6, hg6⟩
           have HC6 := hide hc6
           have HO6 := hide ho6
           have HG6 := hide hg6))
      all_goals
        have HO7 := hide (show Ow w7 w.heap.size 5 1 B7 (q + 5) d7 (by8 (l.take q ++ [255, 255, 255, 255, v])) by simpa [by8, List.map_take] using ho7)
        have HX7 := hide (byte_app (byte_take HX4.out q) (show ∀ y ∈ [(255 : Int), 255, 255, 255, v], 0 ≤ y ∧ y ≤ 255 by simp; omega))
        have HC7 := hide (cur_grown HC6.out hg7 (fun b hb => by have := (HO6.out.blk_lt b hb).1; omega))
        have HG7 := hide (gr_new HG6.out hg7 (fun b hb => (HO6.out.blk_lt b hb).1))
        clear ho7 hg7 hc5 hc6 hg6 ho6
        go_wp2_with fail
        refine (below_g g A n c bs w7 w7 HC7.out (World.grownBy.refl _ _) 10 (by omega)).mono ?_
        rintro e wz ⟨k7, rfl, ⟨p7, q7⟩, hc7, hg7⟩
        have HOz := hide (HO7.out.kept hg7 (own_ne HO7.out hgl))
        have HGz := hide (grown_trans HG7.out hg7)
        clear hg7
        by_cases h7 : k7 = 0
        · subst h7
          go_wp2_with fail
          refine (raw_g g A n c bs wz wz hc7 (World.grownBy.refl _ _)).mono ?_
          rintro e w8 ⟨x8, rfl, _, hc8, hg8⟩
          have HO8 := hide (HOz.out.kept hg8 (own_ne HOz.out hgl))
          have HG8 := hide (grown_trans HGz.out hg8)
          clear hg8 hc7
          go_wp2_with fail
          go_ret2
          exact ⟨_, _, _, _, _, rfl, by omega, HX7.out, HO8.out, hc8, HG8.out⟩
        · have hk7 : (k7 == 0) = false := by simpa using h7
          go_wp2_with fail
          go_ret2
          exact ⟨_, _, _, _, _, rfl, by omega, HX7.out, HOz.out, hc7, HGz.out⟩
    · go_wp2_with (at_builtin; refine appM rfl _ _ rfl rfl rfl E8 (own_take HO5.out (by omega)) rfl (one8c _ _) (by omega) HG5.out.size ?_; intro B6 d6 w6 ho6 hg6 hl6)
      have HO6 := hide (show Ow w6 w.heap.size 5 1 B6 (q + 2) d6 (by8 (l.take q ++ [128, 0])) by simpa [by8, List.map_take] using ho6)
      have HX6 := hide (byte_app (byte_take HX4.out q) (show ∀ y ∈ [(128 : Int), 0], 0 ≤ y ∧ y ≤ 255 by simp))
      have HC6 := hide (cur_grown hc5 hg6 (fun b hb => by have := (HO5.out.blk_lt b hb).1; omega))
      have HG6 := hide (gr_new HG5.out hg6 (fun b hb => (HO5.out.blk_lt b hb).1))
      clear ho6 hg6 hl6 hc5
      refine (below_g g A n c bs w6 w6 HC6.out (World.grownBy.refl _ _) 10 (by omega)).mono ?_
      rintro e wz ⟨k7, rfl, ⟨p7, q7⟩, hc7, hg7⟩
      have HOz := hide (HO6.out.kept hg7 (own_ne HO6.out hgl))
      have HGz := hide (grown_trans HG6.out hg7)
      clear hg7
      by_cases h7 : k7 = 0
      · subst h7
        go_wp2_with fail
        refine (raw_g g A n c bs wz wz hc7 (World.grownBy.refl _ _)).mono ?_
        rintro e w8 ⟨x8, rfl, _, hc8, hg8⟩
        have HO8 := hide (HOz.out.kept hg8 (own_ne HOz.out hgl))
        have HG8 := hide (grown_trans HGz.out hg8)
        clear hg8 hc7
        go_wp2_with fail
        go_ret2
        exact ⟨_, _, _, _, _, rfl, by omega, HX6.out, HO8.out, hc8, HG8.out⟩
      · have hk7 : (k7 == 0) = false := by simpa using h7
        go_wp2_with fail
        go_ret2
        exact ⟨_, _, _, _, _, rfl, by omega, HX6.out, HOz.out, hc7, HGz.out⟩
    · have HC6 := hide hc5
      clear hc5
      go_wp2_with fail
      refine (below_g g A n c bs w5 w5 HC6.out (World.grownBy.refl _ _) 10 (by omega)).mono ?_
      rintro e wz ⟨k7, rfl, ⟨p7, q7⟩, hc7, hg7⟩
      have HOz := hide (HO5.out.kept hg7 (own_ne HO5.out hgl))
      have HGz := hide (grown_trans HG5.out hg7)
      clear hg7
      by_cases h7 : k7 = 0
      · subst h7
        go_wp2_with fail
        refine (raw_g g A n c bs wz wz hc7 (World.grownBy.refl _ _)).mono ?_
        rintro e w8 ⟨x8, rfl, _, hc8, hg8⟩
        have HO8 := hide (HOz.out.kept hg8 (own_ne HOz.out hgl))
        have HG8 := hide (grown_trans HGz.out hg8)
        clear hg8 hc7
        go_wp2_with fail
        go_ret2
        exact ⟨_, _, _, _, _, rfl, by omega, HX4.out, HO8.out, hc8, HG8.out⟩
      · have hk7 : (k7 == 0) = false := by simpa using h7
        go_wp2_with fail
        go_ret2
        exact ⟨_, _, _, _, _, rfl, by omega, HX4.out, HOz.out, hc7, HGz.out⟩
end Go.Proofs.Ytflecejioaokmaa
