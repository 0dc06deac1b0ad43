/- What PutName and GetName do, in the program and in the reference: a contract each. -/
import Derived.Test.YtddlfdjeipadoaaPutC
import Derived.Test.YtddlfdjeipadoaaGetC
import Derived.Lib.AppendStr
import Derived.Laws.BytesArg
namespace Go.Proofs.Ytddlfdjeipadoaa.NameC
open Go.RowKit Go.Proofs.Ytddlfdjeipadoaa.Num Go.Proofs.Ytddlfdjeipadoaa.NumC Go.Proofs.Ytddlfdjeipadoaa.Mem Go.Proofs.Ytddlfdjeipadoaa.Leb Go.Proofs.Ytddlfdjeipadoaa.PutC Go.Proofs.Ytddlfdjeipadoaa.GetC

/-- a text's bytes as numbers -/
def sb (s : ByteArray) : List Int := s.data.toList.map fun b => (b.toNat : Int)
theorem strCells_eq (s : ByteArray) : Lib.strCells s = by8 (sb s) := by simp [Lib.strCells, by8, sb]
theorem sb_len (s : ByteArray) : (sb s).length = s.size := by simp [sb]
theorem sb_byte (s : ByteArray) : ∀ x ∈ sb s, 0 ≤ x ∧ x ≤ 255 := by
  intro x hx
  simp only [sb, List.mem_map] at hx
  obtain ⟨b, _, rfl⟩ := hx
  have := b.toNat_lt
  omega

theorem app_str {ops : Array Oper} {rest : List Oper} {o : Oper} {a : Act} {Q : Exit → Act → World → Prop} {w : World} {base n c : Nat} {A : Option Addr} {xs : List Value} {s : ByteArray} (hgd : o.guard = none) (sl x : Operand)
    (ho : o.op = .call { callee := .builtin .append, args := #[sl, x], argTypes := #[22, 9] }) (hs : a.eval sl = .slice A n c) (hx : a.eval x = .string s)
    (hown : Ow w base 5 1 A n c xs) (hb : n + s.size ≤ 140737488355328) (hbase : base ≤ w.heap.size)
    (h : ∀ A' c' w', Ow w' base 5 1 A' (n + s.size) c' (xs ++ by8 (sb s)) → w.grownBy w' (blk A) → wpList Try.prog ops Q rest (a.put o.dst (.slice A' (n + s.size) c')) w') : wpList Try.prog ops Q (o :: rest) a w := by
  obtain ⟨i, hi, hz, hsz, hby⟩ := E8.info
  refine Lib.wpList_append_own_string (w := w) hgd sl x _ _ ho base 5 i E8.under Try.underlying9 hi hz hsz hby _ n xs hs hown s hx (by unfold maxLen; omega) hb hbase (fun v' w' h2 h3 _ => ?_)
  obtain ⟨A', c', rfl, hw⟩ := own_slice h2
  rw [strCells_eq] at hw
  rw [blk_own] at h3
  exact h A' c' w' hw h3

theorem rd_bytes (w : World) (s : ByteArray) (cap : Nat) (fr : Nat × Nat) : Rd (w.alloc (.cells (bytesRow s cap) 5 fr)) (w.heap.size + 1) 1 (some ⟨w.heap.size, 0, none⟩) s.size (by8 (sb s)) := by
  refine ⟨by simp [by8, sb_len], fun _ => ⟨w.heap.size, 0, rfl, by omega, fun j u hu => ?_⟩⟩
  have hh : (w.alloc (.cells (bytesRow s cap) 5 fr)).heap[w.heap.size]? = some (.cells (bytesRow s cap) 5 fr) := heap_alloc_new w _
  rw [Nat.zero_add, cell_of_row _ w.heap.size j _ _ fr hh]
  have hj : j < s.size := by
    have := (List.getElem?_eq_some_iff.1 hu).1
    simpa [by8, sb_len] using this
  have hj2 : j < s.data.size := hj
  simp only [by8, sb, List.map_map, List.getElem?_map] at hu
  rw [Array.getElem?_toList] at hu
  unfold bytesRow
  rw [Array.getElem?_append_left (by simpa using hj2)]
  simpa using hu

set_option maxRecDepth 100000 in
theorem iPutName (A : Option Addr) (n c : Nat) (bs : List Int) (s : ByteArray) (w : World) (hr : Rd w w.heap.size 1 A n (by8 bs)) (hn : n ≤ 4194304) (hs : s.size ≤ 4194304) :
    Calls Try.prog 17 #[.slice A n c, .string s] w (Fresh 5 1 (n + (putU 5 (s.size : Int)).length + s.size) (by8 (bs ++ putU 5 (s.size : Int) ++ sb s)) w) := by
  have hs' : (s.size : Int) ≤ 4194304 := by omega
  have hl := putU_le 5 (s.size : Int)
  have HC := iPutU A n c bs (s.size : Int) w hr (by omega)
  rw [show (s.size : Int) % 4294967296 = s.size from by omega] at HC
  obtain ⟨F, hF⟩ : ∃ F, bs ++ putU 5 (s.size : Int) = F := ⟨_, rfl⟩
  obtain ⟨N, hN⟩ : ∃ N, n + (putU 5 (s.size : Int)).length = N := ⟨_, rfl⟩
  rw [hF, hN] at HC ⊢
  have HC := hide HC
  have HB := hide (show N + s.size ≤ 140737488355328 by omega)
  clear hr hn hs hF hN hl
  go_enter Try.func17, Try.ntmps17
  go_wp2_with fail
  refine HC.out.mono ?_
  rintro e w1 ⟨A1, c1, rfl, ho, hb⟩
  have HO := hide ho
  have H1 := hide hb
  clear ho hb
  go_wp2_with (at_builtin; refine app_str rfl _ _ rfl rfl rfl HO.out HB.out H1.out.size ?_; intro A2 c2 w2 ho2 hg2)
  go_ret
  refine ⟨A2, c2, rfl, ?_, H1.out.grown hg2 H1.out.size (fun g hg => (HO.out.blk_lt g hg).1)⟩
  simpa [by8] using ho2
set_option maxRecDepth 100000 in
theorem sPutName (A : Option Addr) (n c : Nat) (bs : List Int) (s : ByteArray) (w : World) (hr : Rd w w.heap.size 1 A n (by8 bs)) (hn : n ≤ 4194304) (hs : s.size ≤ 4194304) :
    Calls Try.prog 15 #[.slice A n c, .string s] w (Fresh 5 1 (n + (putU 5 (s.size : Int)).length + s.size) (by8 (bs ++ putU 5 (s.size : Int) ++ sb s)) w) := by
  have hs' : (s.size : Int) ≤ 4194304 := by omega
  have hl := putU_le 5 (s.size : Int)
  have HC := sPutU A n c bs (s.size : Int) w hr (by omega)
  rw [show (s.size : Int) % 4294967296 = s.size from by omega] at HC
  obtain ⟨F, hF⟩ : ∃ F, bs ++ putU 5 (s.size : Int) = F := ⟨_, rfl⟩
  obtain ⟨N, hN⟩ : ∃ N, n + (putU 5 (s.size : Int)).length = N := ⟨_, rfl⟩
  rw [hF, hN] at HC ⊢
  have HC := hide HC
  have HB := hide (show (N + s.size) * 1 ≤ 140737488355328 by omega)
  clear hr hn hs hF hN hl
  have kc := fun W => run_bytes_of_string (P := Try.prog) W 9 22 5 s Try.underlying9 Try.underlying22 Try.underlying5
  go_enter Try.func15, Try.ntmps15
  go_wp2_with fail
  refine HC.out.mono ?_
  rintro e w1 ⟨A1, c1, rfl, ho, hb⟩
  have HO := hide ho
  have H1 := hide hb
  clear ho hb
  go_wp2_with (at_builtin; refine app rfl _ _ rfl rfl rfl E8 (show Ow _ w.heap.size _ _ _ _ _ _ from World.ownsRow.alloc HO.out _) (show Rd _ _ _ _ _ _ from (rd_bytes w1 s _ _).up (by simp)) (one_int _ _) HB.out (by have := H1.out.size; simp; omega) ?_; intro A2 c2 w2 ho2 hg2 hl2)
  go_ret
  refine ⟨A2, c2, rfl, by simpa [by8] using ho2, ?_⟩
  exact Below.grown (bel_step H1.out ((Below.refl w1.heap.size w1).alloc (Nat.le_refl _) _) H1.out.size) ⟨hg2.os, hg2.tape, hg2.output, hg2.size, hg2.block⟩ (by have := H1.out.size; simp; omega) (fun g hg => (HO.out.blk_lt g hg).1)
/-- the text that stands at a place with its length ahead -/
def getN (bs : List Int) (at_ : Int) : ByteArray × Int × Bool :=
  if (getU bs at_).2.2 = false ∨ (bs.length : Int) - (getU bs at_).2.1 < (getU bs at_).1 then (ByteArray.empty, 0, false)
  else (strOfNums ((bs.drop (getU bs at_).2.1.toNat).take (getU bs at_).1.toNat), (getU bs at_).2.1 + (getU bs at_).1, true)
theorem getN_no {bs : List Int} {at_ p q : Int} {t : Bool} (h : getU bs at_ = (p, q, t)) (h' : t = false ∨ (bs.length : Int) - q < p) : getN bs at_ = (ByteArray.empty, 0, false) := by
  unfold getN
  rw [h, if_pos h']
theorem getN_ok {bs : List Int} {at_ p q : Int} (h : getU bs at_ = (p, q, true)) (h' : ¬ ((bs.length : Int) - q < p)) : getN bs at_ = (strOfNums ((bs.drop q.toNat).take p.toNat), q + p, true) := by
  unfold getN
  rw [h, if_neg (by simpa using h')]
def GivesN (r : ByteArray × Int × Bool) (e : Ending) : Prop := e = .returned (.tuple #[.string r.1, .int .i64 r.2.1, .bool r.2.2])
theorem cut_cells {w : World} {B b off n q p : Nat} {bs : List Int} (hr : Rd w B 1 (some ⟨b, off, none⟩) n (by8 bs)) (h : q + p ≤ n) (hn : 0 < n) : ∀ i, i < p → w.cell? ⟨b, off + q + i, none⟩ = some (.int .u8 (((bs.drop q).take p).getD i 0)) := by
  intro i hi
  obtain ⟨b', off', he, _, hc⟩ := hr.2 hn
  injection he with he
  injection he with h1 h2
  subst h1; subst h2
  have hl : bs.length = n := by have := hr.1; simp only [by8, List.length_map] at this; omega
  have := hc (q + i) _ (by8_get (by omega))
  rw [Nat.add_assoc, this]
  rw [List.getD_eq_getElem?_getD, List.getElem?_take, if_pos hi, List.getElem?_drop, List.getElem?_eq_getElem (by omega)]
  rfl

set_option maxRecDepth 100000 in
theorem iGetName (A : Option Addr) (n c : Nat) (bs : List Int) (at_ : Int) (w : World) (hr : Rd w w.heap.size 1 A n (by8 bs)) (hx : ∀ x ∈ bs, 0 ≤ x ∧ x ≤ 255) (hn : (n : Int) ≤ 4194304) (hcap : n ≤ c) :
    Calls Try.prog 22 #[.slice A n c, .int .i64 at_] w fun e w' => GivesN (getN bs at_) e ∧ w = w' := by
  have hl : bs.length = n := by have := hr.1; simp only [by8, List.length_map] at this; omega
  obtain ⟨p, q, t, hg⟩ : ∃ p q t, getU bs at_ = (p, q, t) := ⟨_, _, _, rfl⟩
  have hC := iGetU A n c bs at_ w hr hx (by omega)
  rw [hg] at hC
  unfold Gives at hC
  have HC := hide hC
  clear hC
  cases t with
  | false =>
    have H := hide (getN_no hg (.inl rfl))
    clear hr hx hg hl
    go_enter Try.func22, Try.ntmps22
    go_wp2_with (go_at_call 28; refine HC.out.mono ?_; rintro e w' ⟨rfl, rfl⟩)
    go_ret3
    exact ⟨by unfold GivesN; rw [H.out]; rfl, rfl⟩
  | true =>
    obtain ⟨p0, p1, a0, a1, q1, _⟩ := getU_true hx hg
    rw [hl] at q1
    by_cases hbad : (n : Int) - q < p
    · have H := hide (getN_no hg (.inr (by rw [hl]; exact hbad)))
      clear hr hx hg hl
      go_enter Try.func22, Try.ntmps22
      go_wp2_with (go_at_call 28; refine HC.out.mono ?_; rintro e w' ⟨rfl, rfl⟩)
      go_ret3
      exact ⟨by unfold GivesN; rw [H.out]; rfl, rfl⟩
    · have H := getN_ok hg (by rw [hl]; exact hbad)
      obtain ⟨pn, rfl⟩ : ∃ pn : Nat, p = pn := ⟨p.toNat, by omega⟩
      obtain ⟨qn, rfl⟩ : ∃ qn : Nat, q = qn := ⟨q.toNat, by omega⟩
      simp only [Int.toNat_natCast] at H
      have hqp : (qn : Int) + pn ≤ n := by omega
      have hn0 : 0 < n := by omega
      obtain ⟨b, off, rfl, _, _⟩ := hr.2 hn0
      have hcl := cut_cells (q := qn) (p := pn) hr (by omega) hn0
      have hlen : ((bs.drop qn).take pn).length = pn := by simp; omega
      obtain ⟨S, hS⟩ : ∃ S, strOfNums ((bs.drop qn).take pn) = S := ⟨_, rfl⟩
      rw [hS] at H
      have H := hide H
      have kc : ∀ ad cap, (cap = c - qn ∧ (ad = ⟨b, off + qn, none⟩ ∨ pn = 0 ∧ ad = ⟨b, off, none⟩)) → (convert 22 9 (.slice (some ad) pn cap)).run Try.prog w = .ok (.string S) w := by
        rintro ad cap ⟨rfl, rfl | ⟨rfl, rfl⟩⟩
        · rw [← hS]
          exact run_convert_bytes_arg w _ _ Try.underlying22 Try.underlying5 b (off + qn) pn (c - qn) _ hlen hcl _ Try.underlying9
        · rw [← hS]
          exact run_convert_bytes_arg w _ _ Try.underlying22 Try.underlying5 b off 0 (c - qn) _ hlen (fun i hi => absurd hi (Nat.not_lt_zero i)) _ Try.underlying9
      have KC := hide kc
      clear hr hx hg hl hS hcl hlen kc
      by_cases hcq : qn = c
      · obtain rfl : pn = 0 := by omega
        have k1 := KC.out ⟨b, off, none⟩ 0 ⟨by omega, .inr ⟨rfl, rfl⟩⟩
        clear hqp hcap
        go_enter Try.func22, Try.ntmps22
        go_wp2_with (go_at_call 28; refine HC.out.mono ?_; rintro e w' ⟨rfl, rfl⟩)
        go_ret3
        exact ⟨by unfold GivesN; rw [H.out, hcq]; simp, rfl⟩
      · replace hcq : ¬ c = qn := fun h => hcq h.symm
        have k1 := KC.out ⟨b, off + qn, none⟩ _ ⟨rfl, .inl rfl⟩
        clear p1 a0 a1 hn0
        have hcq' : ¬ (c - qn = 0) := by omega
        go_enter Try.func22, Try.ntmps22
        go_wp2_with (go_at_call 28; refine HC.out.mono ?_; rintro e w' ⟨rfl, rfl⟩)
        go_ret3
        exact ⟨by unfold GivesN; rw [H.out]; rfl, rfl⟩
set_option maxRecDepth 100000 in
theorem sGetName (A : Option Addr) (n c : Nat) (bs : List Int) (at_ : Int) (w : World) (hr : Rd w w.heap.size 1 A n (by8 bs)) (hx : ∀ x ∈ bs, 0 ≤ x ∧ x ≤ 255) (hn : (n : Int) ≤ 4194304) (hcap : n ≤ c) :
    Calls Try.prog 21 #[.slice A n c, .int .i64 at_] w fun e w' => GivesN (getN bs at_) e ∧ w = w' := by
  have hl : bs.length = n := by have := hr.1; simp only [by8, List.length_map] at this; omega
  obtain ⟨p, q, t, hg⟩ : ∃ p q t, getU bs at_ = (p, q, t) := ⟨_, _, _, rfl⟩
  have hC := sGetU A n c bs at_ w hr hx (by omega)
  rw [hg] at hC
  unfold Gives at hC
  have HC := hide hC
  clear hC
  cases t with
  | false =>
    have H := hide (getN_no hg (.inl rfl))
    clear hr hx hg hl
    go_enter Try.func21, Try.ntmps21
    go_wp2_with (go_at_call 33; refine HC.out.mono ?_; rintro e w' ⟨rfl, rfl⟩)
    go_ret3
    exact ⟨by unfold GivesN; rw [H.out]; rfl, rfl⟩
  | true =>
    obtain ⟨p0, p1, a0, a1, q1, _⟩ := getU_true hx hg
    rw [hl] at q1
    by_cases hbad : (n : Int) - q < p
    · have H := hide (getN_no hg (.inr (by rw [hl]; exact hbad)))
      clear hr hx hg hl
      go_enter Try.func21, Try.ntmps21
      go_wp2_with (go_at_call 33; refine HC.out.mono ?_; rintro e w' ⟨rfl, rfl⟩)
      go_ret3
      exact ⟨by unfold GivesN; rw [H.out]; rfl, rfl⟩
    · have H := getN_ok hg (by rw [hl]; exact hbad)
      obtain ⟨pn, rfl⟩ : ∃ pn : Nat, p = pn := ⟨p.toNat, by omega⟩
      obtain ⟨qn, rfl⟩ : ∃ qn : Nat, q = qn := ⟨q.toNat, by omega⟩
      simp only [Int.toNat_natCast] at H
      have hqp : (qn : Int) + pn ≤ n := by omega
      have hn0 : 0 < n := by omega
      obtain ⟨b, off, rfl, _, _⟩ := hr.2 hn0
      have hcl := cut_cells (q := qn) (p := pn) hr (by omega) hn0
      have hlen : ((bs.drop qn).take pn).length = pn := by simp; omega
      obtain ⟨S, hS⟩ : ∃ S, strOfNums ((bs.drop qn).take pn) = S := ⟨_, rfl⟩
      rw [hS] at H
      have H := hide H
      have kc : ∀ ad cap, (cap = c - qn ∧ (ad = ⟨b, off + qn, none⟩ ∨ pn = 0 ∧ ad = ⟨b, off, none⟩)) → (convert 22 9 (.slice (some ad) pn cap)).run Try.prog w = .ok (.string S) w := by
        rintro ad cap ⟨rfl, rfl | ⟨rfl, rfl⟩⟩
        · rw [← hS]
          exact run_convert_bytes_arg w _ _ Try.underlying22 Try.underlying5 b (off + qn) pn (c - qn) _ hlen hcl _ Try.underlying9
        · rw [← hS]
          exact run_convert_bytes_arg w _ _ Try.underlying22 Try.underlying5 b off 0 (c - qn) _ hlen (fun i hi => absurd hi (Nat.not_lt_zero i)) _ Try.underlying9
      have KC := hide kc
      clear hr hx hg hl hS hcl hlen kc
      by_cases hcq : qn = c
      · obtain rfl : pn = 0 := by omega
        have k1 := KC.out ⟨b, off, none⟩ 0 ⟨by omega, .inr ⟨rfl, rfl⟩⟩
        clear hqp hcap
        go_enter Try.func21, Try.ntmps21
        go_wp2_with (go_at_call 33; refine HC.out.mono ?_; rintro e w' ⟨rfl, rfl⟩)
        go_ret3
        exact ⟨by unfold GivesN; rw [H.out, hcq]; simp, rfl⟩
      · replace hcq : ¬ c = qn := fun h => hcq h.symm
        have k1 := KC.out ⟨b, off + qn, none⟩ _ ⟨rfl, .inl rfl⟩
        clear p1 a0 a1 hn0
        have hcq' : ¬ (c - qn = 0) := by omega
        go_enter Try.func21, Try.ntmps21
        go_wp2_with (go_at_call 33; refine HC.out.mono ?_; rintro e w' ⟨rfl, rfl⟩)
        go_ret3
        exact ⟨by unfold GivesN; rw [H.out]; rfl, rfl⟩
end Go.Proofs.Ytddlfdjeipadoaa.NameC
