/- The reference's cut of a text at a byte: its contract. -/
import Derived.Test.YtiinkfejdnfonaaDoorCutT
import Derived.Test.YtiinkfejdnfonaaDoorOpS
import Derived.Test.YtiinkfejdnfonaaDoorIns
namespace Go.Proofs.YtiinkfejdnfonaaDoor.Cut
open Go.RowKit Go.Proofs.YtiinkfejdnfonaaDoor.Num Go.Proofs.YtiinkfejdnfonaaDoor.NumC Go.Proofs.YtiinkfejdnfonaaDoor.Mem Go.Proofs.YtiinkfejdnfonaaDoor.Ops Go.Proofs.YtiinkfejdnfonaaDoor.Shape
set_option linter.unusedVariables false
/-- where the cut stands: the pieces so far, the place behind the last byte c -/
def CutAt (c : UInt8) (s : ByteArray) (done : List ByteArray) (f k : Nat) : Prop :=
  done.map (·.data.toList) ++ cutB c (s.data.toList.drop f) = cutB c s.data.toList ∧ c ∉ (s.data.toList.drop f).take (k - f)
theorem cut_start (c : UInt8) (s : ByteArray) : CutAt c s [] 0 0 := ⟨rfl, by simp⟩
theorem cut_other {c : UInt8} {s : ByteArray} {done : List ByteArray} {f k : Nat} (h : CutAt c s done f k) (hf : f ≤ k) (hk : k < s.size) (hc : s[k] ≠ c) : CutAt c s done f (k + 1) := by
  refine ⟨h.1, ?_⟩
  have hl : s.data.toList.length = s.size := by simp
  have e : (s.data.toList.drop f).take (k + 1 - f) = (s.data.toList.drop f).take (k - f) ++ [s[k]] := by
    rw [show k + 1 - f = (k - f) + 1 by omega, List.take_add_one]
    congr 1
    rw [List.getElem?_drop, show f + (k - f) = k by omega]
    simp [hk]
    rfl
  rw [e, List.mem_append, not_or]
  exact ⟨h.2, by simpa using fun e => hc e.symm⟩
theorem cut_here {c : UInt8} {s : ByteArray} {done : List ByteArray} {f k : Nat} (h : CutAt c s done f k) (hf : f ≤ k) (hk : k < s.size) (hc : s[k] = c) : CutAt c s (done ++ [s.extract f k]) (k + 1) (k + 1) := by
  have hl : s.data.toList.length = s.size := by simp
  refine ⟨?_, by simp⟩
  rw [← h.1, List.map_append, List.append_assoc]
  congr 1
  have hg : s.data.toList[k]? = some c := by
    rw [← hc]
    simp [hk]
    rfl
  have e : s.data.toList.drop f = (s.data.toList.drop f).take (k - f) ++ c :: s.data.toList.drop (k + 1) := by
    conv => lhs; rw [← List.take_append_drop (k - f) (s.data.toList.drop f)]
    congr 1
    rw [List.drop_drop, show f + (k - f) = k by omega]
    obtain ⟨h1, h2⟩ := List.getElem?_eq_some_iff.1 hg
    rw [List.drop_eq_getElem_cons h1, h2]
  conv => rhs; rw [e]
  rw [cutB_step c _ _ h.2]
  simp
theorem cut_done {c : UInt8} {s : ByteArray} {done : List ByteArray} {f : Nat} (h : CutAt c s done f s.size) : done ++ [s.extract f s.size] = cutW c s := by
  have hl : s.data.toList.length = s.size := by simp
  apply map_data_inj
  rw [cutW_data, ← h.1, List.map_append]
  congr 1
  have h2 := h.2
  rw [List.take_of_length_le (by simp)] at h2
  rw [cutB_last c _ h2]
  have e : (s.extract f s.size).data.toList = s.data.toList.drop f := Lib.extract_to_end s f
  show [(s.extract f s.size).data.toList] = _
  rw [e]
theorem app1x {P : Program} {t e : TypeId} {z : Value} {size bytes base n c g : Nat} {A : Option Addr} {xs : List Value} {w : World} {ops : Array Oper} {rest : List Oper} {o : Oper} {a : Act} {Q : Exit → Act → World → Prop} {cs : Array Value} (hgd : o.guard = none) (s x : Operand)
    (ho : o.op = .call { callee := .builtin .append, args := #[s, x], argTypes := #[t, t] }) (hs : a.eval s = .slice A n c) (hx : a.eval x = .slice (some ⟨g, 0, none⟩) 1 1) (hg : g = w.heap.size)
    (E : Elem P t e z size bytes) (hown : Ow w base e size A n c xs) (hcs : cs.size = size) (h1 : ∀ u ∈ cs.toList, u.oneCell' = true)
    (hb : (n + 1) * bytes ≤ 140737488355328) (hbase : base ≤ w.heap.size)
    (h : ∀ A' c' w', Ow w' base e size A' (n + 1) c' (xs ++ cs.toList) → w.grownBy w' (blk A) → (blk A' = blk A ∨ ∃ g, blk A' = some g ∧ w.heap.size ≤ g) → wpList P ops Q rest (a.put o.dst (.slice A' (n + 1) c')) w') : wpList P ops Q (o :: rest) a (w.alloc (.cells cs e)) := by
  subst hg
  exact app1 hgd s x ho hs hx E hown hcs h1 hb hbase h
theorem ne_step {B B' R : Option Addr} {S : Nat} (h : blk B ≠ blk R) (hB : blk B' = blk B ∨ ∃ g, blk B' = some g ∧ S ≤ g) (hR : ∀ g, blk R = some g → g < S) : blk B' ≠ blk R := by
  rcases hB with hB | ⟨g, hg, hs⟩
  · rw [hB]
    exact h
  · intro e
    have := hR g (by rw [← e, hg])
    omega
theorem one3 (x y z : Int) : ∀ u ∈ (#[Value.int .i64 x, Value.int .i64 y, Value.int .i64 z] : Array Value).toList, u.oneCell' = true := by
  intro u hu
  simp only [List.mem_cons, List.not_mem_nil, or_false] at hu
  rcases hu with rfl | rfl | rfl <;> rfl
/-- the loop over the parts: the row that is made, the row that is read, apart from each other -/
structure LS (w : World) (L : List Ins3) (ps : List ByteArray) (A1 : Option Addr) (n : Nat) (B : Option Addr) (k cb : Nat) (W : World) : Prop where
  own : Ow W w.heap.size 61 3 B k cb (insC (L.take k))
  rd : Rd W W.heap.size 1 A1 n (strC ps)
  ne : blk B ≠ blk A1
  lt : ∀ g, blk A1 = some g → g < W.heap.size
  bel : Below w.heap.size w W
theorem LS.step {w W W' : World} {L : List Ins3} {ps : List ByteArray} {A1 B : Option Addr} {n k cb : Nat} (h : LS w L ps A1 n B k cb W) (hb : Below W.heap.size W W') : LS w L ps A1 n B k cb W' :=
  ⟨h.own.below hb (Nat.le_refl _), h.rd.bel hb, h.ne, fun g hg => Nat.lt_of_lt_of_le (h.lt g hg) hb.size, bel_step h.bel hb h.bel.size⟩
theorem insC_snoc : ∀ (l : List Ins3) (x y z : Int), insC (l ++ [(x, y, z)]) = insC l ++ (#[Value.int .i64 x, Value.int .i64 y, Value.int .i64 z] : Array Value).toList
  | [], x, y, z => rfl
  | i :: l, x, y, z => by
    have := insC_snoc l x y z
    rw [List.cons_append, insC, insC, this]
    rfl
theorem LS.next {w W w4 : World} {L : List Ins3} {ps : List ByteArray} {A1 B B4 : Option Addr} {n k cb d4 : Nat} {x y z : Int} (h : LS w L ps A1 n B k cb W) (ho : Ow w4 w.heap.size 61 3 B4 (k + 1) d4 (insC (L.take k) ++ (#[Value.int .i64 x, Value.int .i64 y, Value.int .i64 z] : Array Value).toList)) (hg : W.grownBy w4 (blk B)) (hl : blk B4 = blk B ∨ ∃ g, blk B4 = some g ∧ W.heap.size ≤ g) (hL : L[k]? = some (x, y, z)) : LS w L ps A1 n B4 (k + 1) d4 w4 := by
  refine ⟨?_, h.rd.grown hg (Nat.le_refl _) (fun e => h.ne e.symm), ne_step h.ne hl h.lt, fun g hg' => Nat.lt_of_lt_of_le (h.lt g hg') hg.size, bel_grown h.bel hg h.bel.size (fun g hg' => (h.own.blk_lt g hg').1)⟩
  have e : L.take (k + 1) = L.take k ++ [(x, y, z)] := by simp [List.take_add_one, hL]
  rw [e, insC_snoc]
  exact ho
/-- the instruction that is being read, in a block of its own behind a world w -/
structure V3 (w : World) (op a b : Int) (W : World) : Prop where
  row : W.heap[w.heap.size]? = some (.cells #[.int .i64 op, .int .i64 a, .int .i64 b] 61 (0, 0))
  bel : Below w.heap.size w W
namespace V3
variable {w W W' : World} {op a b : Int}
theorem new (w : World) (op a b : Int) : V3 w op a b (w.alloc (.cells #[.int .i64 op, .int .i64 a, .int .i64 b] 61)) := ⟨heap_alloc_new w _, (Below.refl _ _).alloc (Nat.le_refl _) _⟩
theorem lt (h : V3 w op a b W) : w.heap.size < W.heap.size := (Array.getElem?_eq_some_iff.1 h.row).1
theorem call (h : V3 w op a b W) (hb : Below W.heap.size W W') : V3 w op a b W' := ⟨(hb.block _ h.lt).trans h.row, bel_step h.bel hb h.bel.size⟩
theorem set1 (h : V3 w op a b W) (a' : Int) : V3 w op a' b (W.setCell ⟨w.heap.size, 1, none⟩ (.int .i64 a')) := ⟨heap_setCell_same W _ 1 _ _ _ h.row, Below.setCell (p := ⟨w.heap.size, 1, none⟩) h.bel (Nat.le_refl _) _⟩
theorem set2 (h : V3 w op a b W) (b' : Int) : V3 w op a b' (W.setCell ⟨w.heap.size, 2, none⟩ (.int .i64 b')) := ⟨heap_setCell_same W _ 2 _ _ _ h.row, Below.setCell (p := ⟨w.heap.size, 2, none⟩) h.bel (Nat.le_refl _) _⟩
theorem c0 (h : V3 w op a b W) : W.cell? ⟨w.heap.size, 0, none⟩ = some (.int .i64 op) := cell_of_row W _ 0 _ _ (0, 0) h.row
theorem c1 (h : V3 w op a b W) : W.cell? ⟨w.heap.size, 1, none⟩ = some (.int .i64 a) := cell_of_row W _ 1 _ _ (0, 0) h.row
theorem c2 (h : V3 w op a b W) : W.cell? ⟨w.heap.size, 2, none⟩ = some (.int .i64 b) := cell_of_row W _ 2 _ _ (0, 0) h.row
theorem f1 (h : V3 w op a b W) : W.frozen? ⟨w.heap.size, 1, none⟩ = false := frozen_of_row W _ 1 _ _ h.row
theorem f2 (h : V3 w op a b W) : W.frozen? ⟨w.heap.size, 2, none⟩ = false := frozen_of_row W _ 2 _ _ h.row
end V3
theorem str_at {w W : World} {b off m k : Nat} {l : List ByteArray} (h : Rd w w.heap.size 1 (some ⟨b, off, none⟩) m (strC l)) (hk : k < m) (hl : l.length = m) (hb : Below w.heap.size w W) : W.cell? ⟨b, off + k, none⟩ = some (.string (l.getD k ⟨#[]⟩)) := by
  obtain ⟨b', off', hA, x, hx, hc, hlt⟩ := get_str h k hk (fun _ _ => rfl)
  injection hA with hA
  injection hA with e1 e2
  subst e1 e2
  rw [hb.cell (p := ⟨b, off + k, none⟩) hlt, hc]
  simp [List.getD, hx]
theorem oneS (x : ByteArray) : ∀ u ∈ (#[Value.string x] : Array Value).toList, u.oneCell' = true := by
  intro u hu
  simp only [List.mem_cons, List.not_mem_nil, or_false] at hu
  rcases hu with rfl
  rfl
theorem own_empS (w : World) (e size : Nat) : Ow (w.alloc (.cells #[] e)) w.heap.size e size (some ⟨w.heap.size, 0, none⟩) 0 0 [] := World.ownsRow_made w #[] 0 (Nat.le_refl _) (Nat.zero_le _) (by simp)
theorem strC_snoc {w : World} {base e size n c : Nat} {A : Option Addr} {L : List ByteArray} {x : ByteArray} (h : Ow w base e size A n c (strC L ++ (#[Value.string x] : Array Value).toList)) : Ow w base e size A n c (strC (L ++ [x])) := by
  simpa [strC] using h
set_option maxRecDepth 100000 in
theorem l03Cut_c (c : UInt8) (s : ByteArray) (w : World) (hs : s.size ≤ 1048576) :
    Calls Tryd.prog 33 #[.string s, .int .u8 (c.toNat : Int)] w (Fresh 9 1 (cutW c s).length (strC (cutW c s)) w) := by
  have hs' : (s.size : Int) ≤ 1048576 := by omega
  obtain ⟨cv, hcv⟩ : ∃ cv : Int, (c.toNat : Int) = cv := ⟨_, rfl⟩
  have HV := hide hcv
  rw [hcv]
  clear hs hcv
  go_enter Tryd.func33, Tryd.ntmps33
  go_wp2_with fail
  go_loopw [5, 6, 7] (fun o f i wr => ∃ (k fr N : Nat) (done : List ByteArray) (B : Option Addr) (cb : Nat), i = .int .i64 k ∧ f = .int .i64 fr ∧ o = .slice B N cb ∧ fr ≤ k ∧ k ≤ s.size ∧ N ≤ k ∧ Hid (done.length = N) ∧ Hid (CutAt c s done fr k) ∧ Hid (Ow wr w.heap.size 9 1 B N cb (strC done)) ∧ Hid (Below w.heap.size w wr)) (fun _ _ i _ => s.size - (intOf i).toNat)
  case atStart => exact ⟨0, 0, 0, [], _, 0, rfl, rfl, rfl, Nat.le_refl _, Nat.zero_le _, Nat.le_refl _, hide rfl, hide (cut_start c s), hide (own_empS w _ _), hide ((Below.refl _ _).alloc (Nat.le_refl _) _)⟩
  case round =>
    obtain ⟨k, fr, N, done, B, cb, rfl, rfl, rfl, hfk, hk, hNk, HL, HC, HO, HB⟩ := hrel
    have hfr0 : (0 : Int) ≤ fr := by omega
    have hNb : (N : Int) ≤ 1048576 := by omega
    by_cases hlt : k < s.size
    · have hi' : (k : Int) < s.size := by omega
      have hi0 : (0 : Int) ≤ k := by omega
      have hfk' : (fr : Int) ≤ k := by omega
      have hks : (k : Int) ≤ s.size := by omega
      have hwk : IntKind.i64.wrap ((k : Int) + 1) = (k : Int) + 1 := by rw [IntKind.wrap_i64]; omega
      obtain ⟨y, hy⟩ : ∃ y : Int, ((s[k]'hlt).toNat : Int) = y := ⟨_, rfl⟩
      by_cases hyc : y = cv
      · have hce : s[k]'hlt = c := UInt8.toNat_inj.1 (by have := HV.out; omega)
        have HC2 := hide (cut_here HC.out hfk hlt hce)
        clear hce
        go_wp2_with (at_builtin; refine app1 rfl _ _ rfl rfl rfl ES HO.out rfl (oneS _) (by omega) HB.out.size ?_; intro B4 d4 w4 ho4 hg4 hl4)
        refine ⟨⟨k + 1, k + 1, N + 1, done ++ [s.extract fr k], B4, d4, by go_num, by go_num, rfl, by omega, by omega, by omega, hide (by simp [HL.out]), HC2, hide (strC_snoc ho4), hide (bel_grown HB.out hg4 HB.out.size (fun g hg => (HO.out.blk_lt g hg).1))⟩, ?_⟩
        simp [intOf]
        omega
      · have hce : s[k]'hlt ≠ c := fun e => hyc (by rw [← hy, e]; exact HV.out)
        have HC2 := hide (cut_other HC.out hfk hlt hce)
        clear hce
        go_wp2_with fail
        refine ⟨⟨k + 1, fr, N, done, B, cb, by go_num, rfl, rfl, by omega, by omega, by omega, HL, HC2, HO, HB⟩, ?_⟩
        simp [intOf]
        omega
    · have hke : s.size = k := by omega
      have HC2 := hide (show done ++ [s.extract fr k] = cutW c s by rw [← hke]; exact cut_done (by rw [hke]; exact HC.out))
      have hge : (s.size : Int) ≤ k := by omega
      have hkn : decide ((k : Int) < s.size) = false := decide_eq_false (by omega)
      have hfs : (fr : Int) ≤ s.size := by omega
      go_wp2_with (at_builtin; refine app1 rfl _ _ rfl rfl rfl ES HO.out rfl (oneS _) (by omega) HB.out.size ?_; intro B4 d4 w4 ho4 hg4 hl4)
      go_ret
      have h1 := HC2.out
      have h2 : (cutW c s).length = N + 1 := by rw [← h1, List.length_append, HL.out]; rfl
      rw [h2, ← h1]
      exact ⟨B4, d4, rfl, strC_snoc ho4, bel_grown HB.out hg4 HB.out.size (fun g hg => (HO.out.blk_lt g hg).1)⟩
end Go.Proofs.YtiinkfejdnfonaaDoor.Cut
