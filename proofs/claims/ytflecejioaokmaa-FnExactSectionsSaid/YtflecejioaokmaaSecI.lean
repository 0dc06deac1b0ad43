/- The numbers of the sections, in the program and in the reference. -/
import Derived.Test.YtflecejioaokmaaSecC
namespace Go.Proofs.Ytflecejioaokmaa.Sec
open Go.RowKit Go.Proofs.Ytflecejioaokmaa.Num Go.Proofs.Ytflecejioaokmaa.NumC Go.Proofs.Ytflecejioaokmaa.Mem Go.Proofs.Ytflecejioaokmaa.Leb Go.Proofs.Ytflecejioaokmaa.Ops
set_option linter.unusedVariables false
/-- the numbers and whether there are any -/
def secV (bs : List Int) : List Int × Bool := match sections bs with | some l => (l, true) | none => ([], false)
/-- what Sections hands back -/
def SecR (bs : List Int) (w : World) (e : Ending) (w' : World) : Prop :=
  Below w.heap.size w w' ∧ ∃ (l : List Int) (t : Bool) (A : Option Addr) (N c : Nat), secV bs = (l, t) ∧ l.length = N ∧ N ≤ 11 ∧ e = .returned (.tuple #[.slice A N c, .bool t]) ∧ Ow w' w.heap.size 3 1 A N c (in64 l)
theorem one64 (x : Int) : ∀ u ∈ (#[Value.int .i64 x] : Array Value).toList, u.oneCell' = true := by
  intro u hu
  simp only [List.mem_cons, List.not_mem_nil, or_false] at hu
  rcases hu with rfl
  rfl
theorem more64 {L : List Int} {k : Nat} {x : Int} (h : L[k]? = some x) : in64 (L.take (k + 1)) = in64 (L.take k) ++ (#[Value.int .i64 x] : Array Value).toList := by
  simp [in64, List.take_add_one, h]
theorem app1x {P : Program} {t e : TypeId} {z : Value} {size bytes base n c g : Nat} {A : Option Addr} {xs : List Value} {w : World} {ops : Array Oper} {rest : List Oper} {o : Oper} {a : Act} {Q : Exit → Act → World → Prop} {cs : Array Value} (hgd : o.guard = none) (s x : Operand)
    (ho : o.op = .call { callee := .builtin .append, args := #[s, x], argTypes := #[t, t] }) (hs : a.eval s = .slice A n c) (hx : a.eval x = .slice (some ⟨g, 0, none⟩) 1 1) (hg : g = w.heap.size)
    (E : Elem P t e z size bytes) (hown : Ow w base e size A n c xs) (hcs : cs.size = size) (h1 : ∀ u ∈ cs.toList, u.oneCell' = true)
    (hb : (n + 1) * bytes ≤ 140737488355328) (hbase : base ≤ w.heap.size)
    (h : ∀ A' c' w', Ow w' base e size A' (n + 1) c' (xs ++ cs.toList) → w.grownBy w' (blk A) → wpList P ops Q rest (a.put o.dst (.slice A' (n + 1) c')) w') : wpList P ops Q (o :: rest) a (w.alloc (.cells cs e)) := by
  subst hg
  exact app1 hgd s x ho hs hx E hown hcs h1 hb hbase fun A' c' w' h1 h2 _ => h A' c' w' h1 h2
/-- the parts' cells -/
theorem part_cell {w wr : World} {B q : Nat} {A : Option Addr} {ps : List (Int × Value)} (h : Rd w B 2 A q (partC ps)) (hq : ps.length = q) (hsl : Sl ps) (k : Nat) (hk : k < q) (hc : ∀ p : Addr, p.block < B → wr.cell? p = w.cell? p) :
    ∃ b off, A = some ⟨b, off, none⟩ ∧ ∃ x A' n' c', (ps.map (·.1))[k]? = some x ∧ wr.cell? ⟨b, off + k * 2, none⟩ = some (.int .i64 x) ∧ wr.cell? ⟨b, off + k * 2 + 1, none⟩ = some (.slice A' n' c') := by
  obtain ⟨b, off, rfl, hb, hcell⟩ := h.2 (by omega)
  obtain ⟨h1, h2⟩ := partC_get ps k (by omega)
  obtain ⟨A', n', c', hv⟩ := hsl _ (List.getElem_mem (show k < ps.length by omega))
  rw [hv] at h2
  refine ⟨b, off, rfl, (ps[k]'(by omega)).1, A', n', c', by simp [List.getElem?_map, List.getElem?_eq_getElem (show k < ps.length by omega)], ?_, ?_⟩
  · exact (hc _ hb).trans (hcell _ _ h1)
  · exact (hc _ hb).trans (by have := hcell _ _ h2; rwa [← Nat.add_assoc] at this)
set_option maxRecDepth 100000 in
theorem iSections (A : Option Addr) (n c : Nat) (bs : List Int) (w : World) (hr : Rd w w.heap.size 1 A n (by8 bs)) (hn : n ≤ 1048576) (hc : n ≤ c) (hx : ∀ x ∈ bs, 0 ≤ x ∧ x ≤ 255) :
    Calls Try.prog 20 #[.slice A n c] w (SecR bs w) := by
  have HC := hide (split_c A n c bs w hr hn hc hx)
  clear hr hn hc hx
  go_enter Try.func20, Try.ntmps20
  go_wp2_with fail
  refine HC.out.mono ?_
  rintro e w1 ⟨hb, ⟨hs, q, hq, rfl⟩ | ⟨ps, B, cb, hs, hsl, hp, rfl, ho⟩⟩
  · have HS := hide hs
    have HB := hide hb
    clear hs hb HC
    have hq0 : (q == 0) = false := by simpa using hq
    go_wp2_with fail
    go_ret2
    exact ⟨HB.out, [], false, none, 0, 0, by unfold secV; rw [HS.out], rfl, by omega, rfl, World.ownsRow_nil _ _ _ _⟩
  · have HS := hide hs
    have HB := hide hb
    have HO := hide ho
    have HSL := hide hsl
    clear hsl
    obtain ⟨q, hq⟩ : ∃ q, ps.length = q := ⟨_, rfl⟩
    have HQ := hide hq
    rw [hq] at hp HO ⊢
    clear hs hb ho hq HC
    have hqp : (q : Int) ≤ 11 := by omega
    go_wp2_with fail
    obtain ⟨L, hL⟩ : ∃ L, ps.map (·.1) = L := ⟨_, rfl⟩
    have HLL := hide (show L.length = q by have := HQ.out; rw [← hL]; simpa using this)
    have HLE := hide hL
    rw [hL] at HS
    clear hL
    go_loopw [6, 18] (fun s i wr => ∃ (k : Nat) (As : Option Addr) (cs : Nat), k ≤ q ∧ i = .int .i64 k ∧ s = .slice As k cs ∧ Hid (Ow wr w1.heap.size 3 1 As k cs (in64 (L.take k))) ∧ Hid (Below w1.heap.size w1 wr)) (fun _ i _ => q - (intOf i).toNat)
    case atStart => exact ⟨0, none, 0, Nat.zero_le _, rfl, rfl, hide ((World.ownsRow_nil w1 _ _ _)), hide (Below.refl _ _)⟩
    case round =>
      obtain ⟨k, As, cs, hk, rfl, rfl, HOw, HW⟩ := hrel
      by_cases hlt : k < q
      · obtain ⟨b, off, rfl, x, A', n', c', hx, c0, c1⟩ := part_cell (wr := wr) HO.out.rd HQ.out HSL.out k hlt (fun p hp => HW.out.cell hp)
        have hi0 : (0 : Int) ≤ k := by omega
        have hi1 : (k : Int) < q := by omega
        have HXk := hide (show L[k]? = some x by rw [← HLE.out]; exact hx)
        clear hx
        have HWa := hide (HW.out.alloc HW.out.size (.cells #[.int .i64 x, .slice A' n' c'] 78))
        have HOa := hide (show Ow (wr.alloc (.cells #[.int .i64 x, .slice A' n' c'] 78)) w1.heap.size 3 1 As k cs (in64 (L.take k)) from World.ownsRow.alloc HOw.out _)
        have HSz := hide (show w1.heap.size ≤ (wr.alloc (.cells #[.int .i64 x, .slice A' n' c'] 78)).heap.size by have := HW.out.size; simp; omega)
        have HN8 := hide (show (k + 1) * 8 ≤ 140737488355328 by omega)
        go_wp2_with (at_builtin; refine app1x rfl _ _ rfl rfl rfl (by simp) EIo HOa.out rfl (one64 _) HN8.out HSz.out ?_; intro B3 d3 w3 ho3 hg3)
        go_roundw
        · refine ⟨k + 1, B3, d3, by omega, by go_num, rfl, hide ?_, hide (bel_grown HWa.out hg3 HSz.out (fun g hg => (HOa.out.blk_lt g hg).1))⟩
          rw [more64 HXk.out]
          exact ho3
        · simp only [intOf]; omega
      · have hge : (q : Int) ≤ k := by omega
        obtain rfl : k = q := by omega
        have hkn : decide ((k : Int) < k) = false := decide_eq_false (by omega)
        go_wp2_with fail
        go_ret2
        have h2 := HOw.out
        have h3 := HLL.out
        rw [List.take_of_length_le (by omega)] at h2
        exact ⟨HB.out.trans (HW.out.mono HB.out.size), L, true, As, k, cs, by unfold secV; rw [HS.out], h3, by omega, rfl, h2.base_le HB.out.size⟩
end Go.Proofs.Ytflecejioaokmaa.Sec
