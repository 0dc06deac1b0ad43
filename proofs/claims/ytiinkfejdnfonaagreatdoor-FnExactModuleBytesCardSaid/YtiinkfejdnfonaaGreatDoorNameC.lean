/- What PutName and GetName do, in the program and in the reference: a contract each. -/
import Derived.Test.YtiinkfejdnfonaaGreatDoorPutC
import Derived.Test.YtiinkfejdnfonaaGreatDoorGetC
import Derived.Lib.AppendStr
import Derived.Laws.BytesArg
namespace Go.Proofs.YtiinkfejdnfonaaGreatDoor.NameC
open Go.RowKit Go.Proofs.YtiinkfejdnfonaaGreatDoor.Num Go.Proofs.YtiinkfejdnfonaaGreatDoor.NumC Go.Proofs.YtiinkfejdnfonaaGreatDoor.Mem Go.Proofs.YtiinkfejdnfonaaGreatDoor.Leb Go.Proofs.YtiinkfejdnfonaaGreatDoor.PutC Go.Proofs.YtiinkfejdnfonaaGreatDoor.GetC

/-- a text's bytes as numbers -/
def sb (s : ByteArray) : List Int := s.data.toList.map fun b => (b.toNat : Int)
theorem strCells_eq (s : ByteArray) : Lib.strCells s = by8 (sb s) := by simp [Lib.strCells, by8, sb]
theorem sb_len (s : ByteArray) : (sb s).length = s.size := by simp [sb]
theorem sb_byte (s : ByteArray) : ∀ x ∈ sb s, 0 ≤ x ∧ x ≤ 255 := by
  intro x hx
  simp only [sb, List.mem_map] at hx
  obtain ⟨b, _, rfl⟩ := hx
  have := b.toNat_lt
  omega

theorem app_str {ops : Array Oper} {rest : List Oper} {o : Oper} {a : Act} {Q : Exit → Act → World → Prop} {w : World} {base n c : Nat} {A : Option Addr} {xs : List Value} {s : ByteArray} (hgd : o.guard = none) (sl x : Operand)
    (ho : o.op = .call { callee := .builtin .append, args := #[sl, x], argTypes := #[31, 9] }) (hs : a.eval sl = .slice A n c) (hx : a.eval x = .string s)
    (hown : Ow w base 5 1 A n c xs) (hb : n + s.size ≤ 140737488355328) (hbase : base ≤ w.heap.size)
    (h : ∀ A' c' w', Ow w' base 5 1 A' (n + s.size) c' (xs ++ by8 (sb s)) → w.grownBy w' (blk A) → wpList Tryz.prog ops Q rest (a.put o.dst (.slice A' (n + s.size) c')) w') : wpList Tryz.prog ops Q (o :: rest) a w := by
  obtain ⟨i, hi, hz, hsz, hby⟩ := E8.info
  refine Lib.wpList_append_own_string (w := w) hgd sl x _ _ ho base 5 i E8.under Tryz.underlying9 hi hz hsz hby _ n xs hs hown s hx (by unfold maxLen; omega) hb hbase (fun v' w' h2 h3 _ => ?_)
  obtain ⟨A', c', rfl, hw⟩ := own_slice h2
  rw [strCells_eq] at hw
  rw [blk_own] at h3
  exact h A' c' w' hw h3

theorem rd_bytes (w : World) (s : ByteArray) (cap : Nat) (fr : Nat × Nat) : Rd (w.alloc (.cells (bytesRow s cap) 5 fr)) (w.heap.size + 1) 1 (some ⟨w.heap.size, 0, none⟩) s.size (by8 (sb s)) := by
  refine ⟨by simp [by8, sb_len], fun _ => ⟨w.heap.size, 0, rfl, by omega, fun j u hu => ?_⟩⟩
  have hh : (w.alloc (.cells (bytesRow s cap) 5 fr)).heap[w.heap.size]? = some (.cells (bytesRow s cap) 5 fr) := heap_alloc_new w _
  rw [Nat.zero_add, cell_of_row _ w.heap.size j _ _ fr hh]
  have hj : j < s.size := by
    have := (List.getElem?_eq_some_iff.1 hu).1
    simpa [by8, sb_len] using this
  have hj2 : j < s.data.size := hj
  simp only [by8, sb, List.map_map, List.getElem?_map] at hu
  rw [Array.getElem?_toList] at hu
  unfold bytesRow
  rw [Array.getElem?_append_left (by simpa using hj2)]
  simpa using hu

set_option maxRecDepth 100000 in
theorem iPutName (A : Option Addr) (n c : Nat) (bs : List Int) (s : ByteArray) (w : World) (hr : Rd w w.heap.size 1 A n (by8 bs)) (hn : n ≤ 4194304) (hs : s.size ≤ 4194304) :
    Calls Tryz.prog 47 #[.slice A n c, .string s] w (Fresh 5 1 (n + (putU 5 (s.size : Int)).length + s.size) (by8 (bs ++ putU 5 (s.size : Int) ++ sb s)) w) := by
  have hs' : (s.size : Int) ≤ 4194304 := by omega
  have hl := putU_le 5 (s.size : Int)
  have HC := iPutU A n c bs (s.size : Int) w hr (by omega)
  rw [show (s.size : Int) % 4294967296 = s.size from by omega] at HC
  obtain ⟨F, hF⟩ : ∃ F, bs ++ putU 5 (s.size : Int) = F := ⟨_, rfl⟩
  obtain ⟨N, hN⟩ : ∃ N, n + (putU 5 (s.size : Int)).length = N := ⟨_, rfl⟩
  rw [hF, hN] at HC ⊢
  have HC := hide HC
  have HB := hide (show N + s.size ≤ 140737488355328 by omega)
  clear hr hn hs hF hN hl
  go_enter Tryz.func47, Tryz.ntmps47
  go_wp2_with fail
  refine HC.out.mono ?_
  rintro e w1 ⟨A1, c1, rfl, ho, hb⟩
  have HO := hide ho
  have H1 := hide hb
  clear ho hb
  go_wp2_with (at_builtin; refine app_str rfl _ _ rfl rfl rfl HO.out HB.out H1.out.size ?_; intro A2 c2 w2 ho2 hg2)
  go_ret
  refine ⟨A2, c2, rfl, ?_, H1.out.grown hg2 H1.out.size (fun g hg => (HO.out.blk_lt g hg).1)⟩
  simpa [by8] using ho2
set_option maxRecDepth 100000 in
theorem sPutName (A : Option Addr) (n c : Nat) (bs : List Int) (s : ByteArray) (w : World) (hr : Rd w w.heap.size 1 A n (by8 bs)) (hn : n ≤ 4194304) (hs : s.size ≤ 4194304) :
    Calls Tryz.prog 79 #[.slice A n c, .string s] w (Fresh 5 1 (n + (putU 5 (s.size : Int)).length + s.size) (by8 (bs ++ putU 5 (s.size : Int) ++ sb s)) w) := by
  have hs' : (s.size : Int) ≤ 4194304 := by omega
  have hl := putU_le 5 (s.size : Int)
  have HC := sPutU A n c bs (s.size : Int) w hr (by omega)
  rw [show (s.size : Int) % 4294967296 = s.size from by omega] at HC
  obtain ⟨F, hF⟩ : ∃ F, bs ++ putU 5 (s.size : Int) = F := ⟨_, rfl⟩
  obtain ⟨N, hN⟩ : ∃ N, n + (putU 5 (s.size : Int)).length = N := ⟨_, rfl⟩
  rw [hF, hN] at HC ⊢
  have HC := hide HC
  have HB := hide (show (N + s.size) * 1 ≤ 140737488355328 by omega)
  clear hr hn hs hF hN hl
  have kc := fun W => run_bytes_of_string (P := Tryz.prog) W 9 31 5 s Tryz.underlying9 Tryz.underlying31 Tryz.underlying5
  go_enter Tryz.func79, Tryz.ntmps79
  go_wp2_with fail
  refine HC.out.mono ?_
  rintro e w1 ⟨A1, c1, rfl, ho, hb⟩
  have HO := hide ho
  have H1 := hide hb
  clear ho hb
  go_wp2_with (at_builtin; refine app rfl _ _ rfl rfl rfl E8 (show Ow _ w.heap.size _ _ _ _ _ _ from World.ownsRow.alloc HO.out _) (show Rd _ _ _ _ _ _ from (rd_bytes w1 s _ _).up (by simp)) (one_int _ _) HB.out (by have := H1.out.size; simp; omega) ?_; intro A2 c2 w2 ho2 hg2 hl2)
  go_ret
  refine ⟨A2, c2, rfl, by simpa [by8] using ho2, ?_⟩
  exact Below.grown (bel_step H1.out ((Below.refl w1.heap.size w1).alloc (Nat.le_refl _) _) H1.out.size) ⟨hg2.os, hg2.tape, hg2.output, hg2.size, hg2.block⟩ (by have := H1.out.size; simp; omega) (fun g hg => (HO.out.blk_lt g hg).1)
/-- the text that stands at a place with its length ahead -/
def getN (bs : List Int) (at_ : Int) : ByteArray × Int × Bool :=
  if (getU bs at_).2.2 = false ∨ (bs.length : Int) - (getU bs at_).2.1 < (getU bs at_).1 then (ByteArray.empty, 0, false)
  else (strOfNums ((bs.drop (getU bs at_).2.1.toNat).take (getU bs at_).1.toNat), (getU bs at_).2.1 + (getU bs at_).1, true)
theorem getN_no {bs : List Int} {at_ p q : Int} {t : Bool} (h : getU bs at_ = (p, q, t)) (h' : t = false ∨ (bs.length : Int) - q < p) : getN bs at_ = (ByteArray.empty, 0, false) := by
  unfold getN
  rw [h, if_pos h']
theorem getN_ok {bs : List Int} {at_ p q : Int} (h : getU bs at_ = (p, q, true)) (h' : ¬ ((bs.length : Int) - q < p)) : getN bs at_ = (strOfNums ((bs.drop q.toNat).take p.toNat), q + p, true) := by
  unfold getN
  rw [h, if_neg (by simpa using h')]
def GivesN (r : ByteArray × Int × Bool) (e : Ending) : Prop := e = .returned (.tuple #[.string r.1, .int .i64 r.2.1, .bool r.2.2])
theorem cut_cells {w : World} {B b off n q p : Nat} {bs : List Int} (hr : Rd w B 1 (some ⟨b, off, none⟩) n (by8 bs)) (h : q + p ≤ n) (hn : 0 < n) : ∀ i, i < p → w.cell? ⟨b, off + q + i, none⟩ = some (.int .u8 (((bs.drop q).take p).getD i 0)) := by
  intro i hi
  obtain ⟨b', off', he, _, hc⟩ := hr.2 hn
  injection he with he
  injection he with h1 h2
  subst h1; subst h2
  have hl : bs.length = n := by have := hr.1; simp only [by8, List.length_map] at this; omega
  have := hc (q + i) _ (by8_get (by omega))
  rw [Nat.add_assoc, this]
  rw [List.getD_eq_getElem?_getD, List.getElem?_take, if_pos hi, List.getElem?_drop, List.getElem?_eq_getElem (by omega)]
  rfl

end Go.Proofs.YtiinkfejdnfonaaGreatDoor.NameC
