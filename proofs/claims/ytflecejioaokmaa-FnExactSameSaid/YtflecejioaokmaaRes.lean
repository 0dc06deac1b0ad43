/- Results of runs: copied, compared, in the program and in the reference: a contract each. -/
import Derived.Test.YtflecejioaokmaaInts
import Derived.Test.YtflecejioaokmaaOpen
import Derived.Deep.RegionHeld
import Derived.Lib.SmallJoins
namespace Go.Proofs.Ytflecejioaokmaa
open Go.ChangeShapes Go.WideShapes Go.RowKit Go.Deep Go.Joins Go.Proofs.Ytflecejioaokmaa.Num Go.Proofs.Ytflecejioaokmaa.Mem
set_option linter.unusedVariables false
namespace Res
section
variable {H : Type} {enc : TypeId × Value → H} {P : Program} {w : World} {base : Nat} {spare : Nat → Bool} {held : Bool}
theorem open_agg6 {r : Reach} {b0 : Nat} {t : TypeId} {f0 f1 f2 f3 f4 f5 : Field} {v : Value} {d : DataW H} {p : List MemPlace} (hs : P.underlying t = some (.struct #[f0, f1, f2, f3, f4, f5])) (hone : oneCellFields P #[f0, f1, f2, f3, f4, f5] = true) (hC : P.cellsOf t = 6)
    (hv : Value.okWide P w r b0 t v) (h : DataW.Trod enc P w base spare held t v d p) :
    ∃ (v0 v1 v2 v3 v4 v5 : Value) (y0 y1 y2 y3 y4 y5 : DataW H × List MemPlace) (n : Nat), v = .agg #[v0, v1, v2, v3, v4, v5] ∧ d = .agg [y0.1, y1.1, y2.1, y3.1, y4.1, y5.1] ∧ p = y0.2 ++ (y1.2 ++ (y2.2 ++ (y3.2 ++ (y4.2 ++ y5.2)))) ∧
      DataW.trod enc P w base spare held n f0.type [v0] = some y0 ∧ DataW.trod enc P w base spare held n f1.type [v1] = some y1 ∧ DataW.trod enc P w base spare held n f2.type [v2] = some y2 ∧ DataW.trod enc P w base spare held n f3.type [v3] = some y3 ∧ DataW.trod enc P w base spare held n f4.type [v4] = some y4 ∧ DataW.trod enc P w base spare held n f5.type [v5] = some y5 := by
  obtain ⟨cs, rfl, hsz⟩ := okWide_struct hs hv
  obtain ⟨l⟩ := cs
  match l, hsz.trans hC with
  | [c0, c1, c2, c3, c4, c5], _ =>
    obtain ⟨fuel, hf⟩ := h
    obtain ⟨xs, n, _, hx, _, hlen, hg⟩ := DataW.trod_struct hs hf
    obtain ⟨o0, k0⟩ := hone_of hone 0 f0 rfl
    obtain ⟨o1, k1⟩ := hone_of hone 1 f1 rfl
    obtain ⟨o2, k2⟩ := hone_of hone 2 f2 rfl
    obtain ⟨o3, k3⟩ := hone_of hone 3 f3 rfl
    obtain ⟨o4, k4⟩ := hone_of hone 4 f4 rfl
    obtain ⟨o5, k5⟩ := hone_of hone 5 f5 rfl
    match xs, hlen with
    | [y0, y1, y2, y3, y4, y5], _ =>
      simp only [Prod.mk.injEq] at hx
      exact ⟨c0, c1, c2, c3, c4, c5, y0, y1, y2, y3, y4, y5, n, rfl, by simpa using hx.1, by simpa using hx.2, by simpa [Value.cells, o0, k0] using hg 0 f0 rfl, by simpa [Value.cells, o1, k1] using hg 1 f1 rfl, by simpa [Value.cells, o2, k2] using hg 2 f2 rfl, by simpa [Value.cells, o3, k3] using hg 3 f3 rfl, by simpa [Value.cells, o4, k4] using hg 4 f4 rfl, by simpa [Value.cells, o5, k5] using hg 5 f5 rfl⟩
end
abbrev resV (e y n : Int) (O : Option Addr) (on oc : Nat) (s : Int) (G : Option Addr) (gn gc : Nat) : Value := .agg #[.int .i64 e, .int .i64 y, .int .i64 n, .slice O on oc, .int .i64 s, .slice G gn gc]
/-- a result: its numbers, what was put out, the globals -/
structure R where
  e : Int
  y : Int
  n : Int
  O : Option Addr
  on : Nat
  oc : Nat
  os : List Int
  s : Int
  G : Option Addr
  gn : Nat
  gc : Nat
  gs : List Int
abbrev R.v (r : R) : Value := resV r.e r.y r.n r.O r.on r.oc r.s r.G r.gn r.gc
theorem open_ints_at {H : Type} {enc : TypeId × Value → H} {w : World} {spare : Nat → Bool} {held : Bool} {fuel : Nat} {v : Value} {x : DataW H × List MemPlace}
    (h : DataW.trod enc Try.prog w 0 spare held fuel 30 [v] = some x) : ∃ (A : Option Addr) (n c : Nat) (l : List Int), v = .slice A n c ∧ n ≤ maxLen ∧ Rd w w.heap.size 1 A n (in64 l) := by
  rcases open_ints Try.underlying30 Try.underlying3 (by kernel_rfl) h with ⟨hcs, _⟩ | ⟨a, l, c', zs, hcs, _, hl, hm, hz, _, hcell, hwz⟩
  · simp only [List.cons.injEq, and_true] at hcs
    exact ⟨none, 0, 0, [], hcs, Nat.zero_le _, ⟨rfl, fun h => absurd h (Nat.lt_irrefl 0)⟩⟩
  · simp only [List.cons.injEq, and_true] at hcs
    have hzl : l ≤ zs.length := by rw [hz]; split <;> omega
    refine ⟨some a, l, c', zs.take l, hcs, by omega, ⟨by simp [in64]; omega, fun hn => ?_⟩⟩
    have h0 := hcell 0 (by omega)
    obtain ⟨b, off, spot⟩ := a
    have hs : spot = none := by
      have := World.cell?_spot h0
      simpa [Addr.add] using this
    subst hs
    have hb : b < w.heap.size := by
      have := World.block_lt_of_cell? w _ h0
      simpa [Addr.add] using this
    refine ⟨b, off, rfl, hb, fun j u hu => ?_⟩
    unfold in64 at hu
    rw [List.getElem?_map] at hu
    obtain ⟨y, hy, rfl⟩ := Option.map_eq_some_iff.1 hu
    have hj : j < (zs.take l).length := (List.getElem?_eq_some_iff.1 hy).1
    have hj2 : j < zs.length := by simp at hj; omega
    have := hcell j hj2
    have ha : (⟨b, off, none⟩ : Addr).add j = ⟨b, off + j, none⟩ := by unfold Addr.add; split <;> simp_all
    rw [ha] at this
    rw [this]
    rw [List.getElem?_take] at hy
    split at hy
    · simp [List.getD, hy]
    · cases hy
set_option maxRecDepth 100000 in
theorem open_res {H : Type} {enc : TypeId × Value → H} {w : World} {spare : Nat → Bool} {held : Bool} {r : Reach} {b0 : Nat} {v : Value} {d : DataW H} {p : List MemPlace}
    (hv : Value.okWide Try.prog w r b0 55 v) (h : DataW.Trod enc Try.prog w 0 spare held 55 v d p) :
    ∃ a : R, v = a.v ∧ a.on ≤ maxLen ∧ a.gn ≤ maxLen ∧ Rd w w.heap.size 1 a.O a.on (in64 a.os) ∧ Rd w w.heap.size 1 a.G a.gn (in64 a.gs) := by
  obtain ⟨v0, v1, v2, v3, v4, v5, y0, y1, y2, y3, y4, y5, n, rfl, _, _, h0, h1, h2, h3, h4, h5⟩ := open_agg6 Try.underlying55 (by kernel_rfl) (by kernel_rfl) hv h
  obtain ⟨x0, e0, _, _⟩ := DataW.trod_int Try.underlying3 h0
  obtain ⟨x1, e1, _, _⟩ := DataW.trod_int Try.underlying3 h1
  obtain ⟨x2, e2, _, _⟩ := DataW.trod_int Try.underlying3 h2
  obtain ⟨O, on, oc, os, rfl, hO, rO⟩ := open_ints_at h3
  obtain ⟨x4, e4, _, _⟩ := DataW.trod_int Try.underlying3 h4
  obtain ⟨G, gn, gc, gs, rfl, hG, rG⟩ := open_ints_at h5
  simp only [List.cons.injEq, and_true] at e0 e1 e2 e4
  subst e0; subst e1; subst e2; subst e4
  exact ⟨⟨x0, x1, x2, O, on, oc, os, x4, G, gn, gc, gs⟩, rfl, hO, hG, rO, rG⟩
theorem bcell {W w1 : World} (hb : Below W.heap.size W w1) : (∀ b o, b < W.heap.size → w1.cell? ⟨b, o, none⟩ = W.cell? ⟨b, o, none⟩) ∧ (∀ b o, b < W.heap.size → w1.frozen? ⟨b, o, none⟩ = W.frozen? ⟨b, o, none⟩) :=
  ⟨fun b o h => hb.cell (p := ⟨b, o, none⟩) h, fun b o h => hb.frozen (p := ⟨b, o, none⟩) h⟩
theorem six {W0 W : World} {b j : Nat} {v : Value} (D : Below W0.heap.size W0 W) (z : b < W0.heap.size) (p : W0.cell? ⟨b, j, none⟩ = some v) : W.cell? ⟨b, j, none⟩ = some v := (D.cell (p := ⟨b, j, none⟩) z).trans p
theorem szResult_c (e y n : Int) (O : Option Addr) (on oc : Nat) (s : Int) (G : Option Addr) (gn gc : Nat) (left : Int) (w : World) (hO : on ≤ 9223372036854775807) (hG : gn ≤ 9223372036854775807) (h0 : 0 ≤ left) (h1 : left ≤ 1048576) :
    Calls Try.prog 41 #[resV e y n O on oc s G gn gc, .int .i64 left] w fun e w' => (∃ x : Int, e = .returned (.int .i64 x) ∧ x ≤ left ∧ (0 ≤ x → (on : Int) ≤ left ∧ (gn : Int) ≤ left)) ∧ Below w.heap.size w w' := by
  go_enter Try.func41, Try.ntmps41
  go_wp2_with fail
  refine (szIntS_c O on oc left _ hO h0 h1).mono ?_
  rintro e w0 ⟨⟨h, rfl⟩ | ⟨h, rfl⟩, rfl⟩
  · go_wp2_with fail
    go_ret
    refine ⟨⟨_, rfl, by omega, fun h => absurd h (by omega)⟩, ?_⟩
    repeat (first | exact Below.refl _ _ | refine Below.setCell ?_ (by simp <;> omega) _ | refine Below.alloc ?_ (by simp <;> omega) _)
  · obtain ⟨l2, hl2⟩ : ∃ l2 : Int, left - on = l2 := ⟨_, rfl⟩
    have hb0 : 0 ≤ l2 := by omega
    have hb1 : l2 ≤ 1048576 := by omega
    have HH := hide (show l2 ≤ left ∧ (on : Int) ≤ left from ⟨by omega, h⟩)
    rw [hl2]
    clear hl2 h
    go_wp2_with fail
    refine (szIntS_c G gn gc l2 _ hG hb0 hb1).mono ?_
    rintro e w0 ⟨⟨h, rfl⟩ | ⟨h, rfl⟩, rfl⟩
    · go_wp2_with fail
      go_ret
      refine ⟨⟨_, rfl, by omega, fun h => absurd h (by omega)⟩, ?_⟩
      repeat (first | exact Below.refl _ _ | refine Below.setCell ?_ (by simp <;> omega) _ | refine Below.alloc ?_ (by simp <;> omega) _)
    · have h5 : 0 ≤ l2 - gn := by omega
      go_wp2_with fail
      go_ret
      refine ⟨⟨_, rfl, by have := HH.out; omega, fun _ => ⟨HH.out.2, by have := HH.out; omega⟩⟩, ?_⟩
      repeat (first | exact Below.refl _ _ | refine Below.setCell ?_ (by simp <;> omega) _ | refine Below.alloc ?_ (by simp <;> omega) _)
theorem own_set {w : World} {base e size n c b o : Nat} {A : Option Addr} {xs : List Value} {u : Value} (h : Ow w base e size A n c xs) (hp : b < base) : Ow (w.setCell ⟨b, o, none⟩ u) base e size A n c xs :=
  h.kept (row := some b) ⟨rfl, rfl, rfl, by simp, fun k _ hk => heap_setCell_other w ⟨b, o, none⟩ k u (fun e => hk (by simp [e]))⟩ (by
    rcases hbk : blk A with _ | g
    · exact .inl rfl
    · exact .inr (by have := (h.blk_lt g hbk).1; simp; omega))
def ResMade (e y n : Int) (on : Nat) (os : List Int) (s : Int) (gn : Nat) (gs : List Int) (w : World) (en : Ending) (w' : World) : Prop :=
  ∃ (O : Option Addr) (oc : Nat) (G : Option Addr) (gc : Nat), en = .returned (resV e y n O on oc s G gn gc) ∧ Ow w' w.heap.size 3 1 O on oc (in64 os) ∧ Ow w' w.heap.size 3 1 G gn gc (in64 gs) ∧ Below w.heap.size w w'
set_option maxRecDepth 100000 in
theorem toResult_c (e y n : Int) (O : Option Addr) (on oc : Nat) (os : List Int) (s : Int) (G : Option Addr) (gn gc : Nat) (gs : List Int) (w : World) (rO : Rd w w.heap.size 1 O on (in64 os)) (rG : Rd w w.heap.size 1 G gn (in64 gs)) (hO : on ≤ 1048576) (hG : gn ≤ 1048576) :
    Calls Try.prog 43 #[resV e y n O on oc s G gn gc] w (ResMade e y n on os s gn gs w) := by
  have HO := hide rO
  have HG := hide rG
  have NO := hide hO
  have NG := hide hG
  clear rO rG hO hG
  go_enter Try.func43, Try.ntmps43
  go_wp2_with fail
  refine (toIntS_c O on oc os _ (HO.out.bel ?_) NO.out).mono ?_
  · repeat (first | exact Below.refl _ _ | refine Below.setCell ?_ (by simp <;> omega) _ | refine Below.alloc ?_ (by simp <;> omega) _)
  rintro e1 w1 ⟨O1, oc1, rfl, ho, hb⟩
  obtain ⟨hc, hf⟩ := bcell hb
  have hz : w.heap.size + 1 + 1 < w1.heap.size := by have := hb.size; simp at this; omega
  have hza : w.heap.size + 1 < w1.heap.size := by omega
  have hzb : w.heap.size < w1.heap.size := by omega
  have HB := hide (show Below w.heap.size w w1 by
    refine Below.trans ?_ (hb.mono (by simp <;> omega))
    repeat (first | exact Below.refl _ _ | refine Below.setCell ?_ (by simp <;> omega) _ | refine Below.alloc ?_ (by simp <;> omega) _))
  have HO1 := hide (show Ow w1 (w.heap.size + 3) 3 1 O1 on oc1 (in64 os) by simpa using ho)
  clear ho hb
  go_wp2_with fail
  refine (toIntS_c G gn gc gs _ (HG.out.bel ?_) NG.out).mono ?_
  · repeat (first | exact Below.refl _ _ | exact HB.out | refine Below.setCell ?_ (by simp <;> omega) _ | refine Below.alloc ?_ (by simp <;> omega) _)
  rintro e2 w2 ⟨G1, gc1, rfl, ho, hb⟩
  obtain ⟨hc2, hf2⟩ := bcell hb
  have hz2 : w.heap.size + 1 + 1 < w2.heap.size := by have := hb.size; simp at this; omega
  have hz2a : w.heap.size + 1 < w2.heap.size := by omega
  have hz2b : w.heap.size < w2.heap.size := by omega
  have HB2 := hide (show Below w.heap.size w w2 by
    refine Below.trans ?_ (hb.mono (by simp <;> omega))
    repeat (first | exact Below.refl _ _ | exact HB.out | refine Below.setCell ?_ (by simp <;> omega) _ | refine Below.alloc ?_ (by simp <;> omega) _))
  have HO2 := hide ((own_set (own_set HO1.out (b := w.heap.size + 1 + 1) (o := 3) (u := .slice O1 on oc1) (by omega)) (b := w.heap.size + 1 + 1) (o := 4) (u := .int .i64 s) (by omega)).below hb (by simp))
  have HG2 := hide (ho.base_le (B := w.heap.size + 3) (by simp; omega))
  clear ho hb
  go_wp2_with fail
  refine bodyPost_ret (v := resV e y n O1 on oc1 s G1 gn gc1) (by simp [results, Try.results43, go_sem, hc2, hc, hza]) rfl ⟨O1, oc1, G1, gc1, rfl, ?_, ?_, ?_⟩
  · refine Ow.base_le (base := w.heap.size + 3) ?_ (by omega)
    repeat refine own_set ?_ (by omega)
    exact HO2.out
  · refine Ow.base_le (base := w.heap.size + 3) ?_ (by omega)
    repeat refine own_set ?_ (by omega)
    exact HG2.out
  · repeat refine Below.setCell ?_ (by simp <;> omega) _
    exact HB2.out
theorem eqResult_c (e y n : Int) (O O' : Option Addr) (on oc oc' : Nat) (os : List Int) (s : Int) (G G' : Option Addr) (gn gc gc' : Nat) (gs : List Int) (w : World) (rO : Rd w w.heap.size 1 O on (in64 os)) (rO' : Rd w w.heap.size 1 O' on (in64 os)) (rG : Rd w w.heap.size 1 G gn (in64 gs)) (rG' : Rd w w.heap.size 1 G' gn (in64 gs)) (hO : on ≤ 1048576) (hG : gn ≤ 1048576) :
    Calls Try.prog 45 #[resV e y n O on oc s G gn gc, resV e y n O' on oc' s G' gn gc'] w fun en w' => en = .returned (.bool true) ∧ Below w.heap.size w w' := by
  have H1 := hide rO
  have H2 := hide rO'
  have H3 := hide rG
  have H4 := hide rG'
  have NO := hide hO
  have NG := hide hG
  clear rO rO' rG rG' hO hG
  go_enter Try.func45, Try.ntmps45
  go_wp2_with fail
  refine (eqIntS_c O O' on oc oc' os _ (H1.out.bel ?_) (H2.out.bel ?_) NO.out).mono ?_
  · repeat (first | exact Below.refl _ _ | refine Below.setCell ?_ (by simp <;> omega) _ | refine Below.alloc ?_ (by simp <;> omega) _)
  · repeat (first | exact Below.refl _ _ | refine Below.setCell ?_ (by simp <;> omega) _ | refine Below.alloc ?_ (by simp <;> omega) _)
  rintro e1 w1 ⟨rfl, m, rfl⟩
  go_wp2_with fail
  refine (eqIntS_c G G' gn gc gc' gs _ (H3.out.bel ?_) (H4.out.bel ?_) NG.out).mono ?_
  · refine bel_drewN ?_ _
    repeat (first | exact Below.refl _ _ | refine Below.setCell ?_ (by simp <;> omega) _ | refine Below.alloc ?_ (by simp <;> omega) _)
  · refine bel_drewN ?_ _
    repeat (first | exact Below.refl _ _ | refine Below.setCell ?_ (by simp <;> omega) _ | refine Below.alloc ?_ (by simp <;> omega) _)
  rintro e1 w1 ⟨rfl, m, rfl⟩
  go_wp2_with fail
  go_ret
  refine ⟨rfl, bel_drewN ?_ _⟩
  repeat (first | exact Below.refl _ _ | refine Below.setCell ?_ (by simp <;> omega) _ | refine Below.alloc ?_ (by simp <;> omega) _)
theorem prefix_c (e y n : Int) (O O' : Option Addr) (on oc oc' : Nat) (os os' : List Int) (s : Int) (G G' : Option Addr) (gn gc gn' gc' : Nat) (e' y' n' s' : Int) (w : World) (rO : Rd w w.heap.size 1 O on (in64 os)) (rO' : Rd w w.heap.size 1 O' on (in64 os')) (hO : on ≤ 1048576) (R : Bool) (hR : R = decide (os = os')) :
    Calls Try.prog 68 #[resV e y n O on oc s G gn gc, resV e' y' n' O' on oc' s' G' gn' gc'] w fun en w' => en = .returned (.bool R) ∧ Below w.heap.size w w' := by
  have hn' : (on : Int) ≤ 1048576 := by omega
  have HA := hide rO
  have HB := hide rO'
  have HX := hide (rd_in64 rO)
  have HY := hide (rd_in64 rO')
  have HR := hide hR
  clear rO rO' hO hR
  go_enter Try.func68, Try.ntmps68
  go_wp2_with fail
  obtain ⟨w0, hw0⟩ : ∃ w0, (w.alloc (.cells #[.int .i64 e, .int .i64 y, .int .i64 n, .slice O on oc, .int .i64 s, .slice G gn gc] 58)).alloc (.cells #[.int .i64 e', .int .i64 y', .int .i64 n', .slice O' on oc', .int .i64 s', .slice G' gn' gc'] 58) = w0 := ⟨_, rfl⟩
  have hb0 : Below w.heap.size w w0 := by
    rw [← hw0]
    repeat (first | exact Below.refl _ _ | refine Below.setCell ?_ (by simp <;> omega) _ | refine Below.alloc ?_ (by simp <;> omega) _)
  have k1 : w0.cell? ⟨w.heap.size, 3, none⟩ = some (.slice O on oc) := by rw [← hw0]; simp
  have k2 : w0.cell? ⟨w.heap.size + 1, 3, none⟩ = some (.slice O' on oc') := by rw [← hw0]; simp
  rw [hw0]
  clear hw0
  have HB0 := hide hb0
  go_loopw [16] (fun i wr => ∃ k : Nat, k ≤ on ∧ i = .int .i64 k ∧ Hid (∀ j, j < k → os[j]? = os'[j]?) ∧ ∃ q, wr = w0.drewN q) (fun i _ => on - (intOf i).toNat)
  case atStart => exact ⟨0, Nat.zero_le _, rfl, hide (fun j hj => by omega), 0, rfl⟩
  case round =>
    obtain ⟨k, hk, rfl, HE, q, rfl⟩ := hrel
    by_cases hlt : k < on
    · obtain ⟨b, off, rfl, x, hx, h1, _⟩ := get_in64 (wr := w0) HA.out k hlt (fun p hp => hb0.cell hp)
      obtain ⟨b', off', rfl, y, hy, h2, _⟩ := get_in64 (wr := w0) HB.out k hlt (fun p hp => hb0.cell hp)
      have hi0 : (k : Int) < (on : Int) := by omega
      have hi1 : (0 : Int) ≤ (k : Int) := by omega
      have HXk := hide hx
      have HYk := hide hy
      clear hx hy hb0
      by_cases hxy : x = y
      · subst hxy
        go_wp2_with fail
        go_quiet (fail)
        go_wp2_with fail
        go_roundw
        case rel =>
          refine ⟨k + 1, by omega, by go_num, hide (fun j hj => ?_), _, rfl⟩
          by_cases hjk : j < k
          · exact HE.out j hjk
          · obtain rfl : j = k := by omega
            rw [HXk.out, HYk.out]
        case measure => simp [intOf]; omega
      · have hR2 : R = false := by rw [HR.out]; exact decide_eq_false (list_ne HXk.out HYk.out hxy)
        subst hR2
        have hxb : (x == y) = false := by simpa using hxy
        go_wp2_with fail
        go_quiet (fail)
        go_wp2_with fail
        go_ret
        exact ⟨rfl, bel_drewN (bel_drewN HB0.out _) _⟩
    · obtain rfl : k = on := by omega
      have hR2 : R = true := by rw [HR.out]; exact decide_eq_true (list_eq HX.out HY.out HE.out)
      subst hR2
      go_wp2_with fail
      go_ret
      exact ⟨rfl, bel_drewN HB0.out _⟩
theorem iSame (e y n : Int) (O O' : Option Addr) (on oc on' oc' : Nat) (os os' : List Int) (s : Int) (G G' : Option Addr) (gn gc gn' gc' : Nat) (e' y' n' s' : Int) (w : World) (rO : Rd w w.heap.size 1 O on (in64 os)) (rO' : Rd w w.heap.size 1 O' on' (in64 os')) (hO : on ≤ 1048576) (hO' : on' ≤ 1048576) (R : Bool) (hR : R = decide (e = e' ∧ y = y' ∧ n = n' ∧ os = os')) :
    Calls Try.prog 44 #[resV e y n O on oc s G gn gc, resV e' y' n' O' on' oc' s' G' gn' gc'] w fun en w' => en = .returned (.bool R) ∧ Below w.heap.size w w' := by
  have HA := hide rO
  have HB := hide rO'
  have NA := hide hO
  have NB := hide hO'
  clear rO rO' hO hO'
  by_cases h1 : e = e'
  · subst h1
    by_cases h2 : y = y'
    · subst h2
      by_cases h3 : n = n'
      · subst h3
        have hR2 := hide (show R = decide (os = os') by simpa using hR)
        clear hR
        go_enter Try.func44, Try.ntmps44
        go_wp2_with fail
        refine (equal_c O O' on on' oc oc' os os' _ (HA.out.bel ?_) (HB.out.bel ?_) NA.out NB.out R hR2.out).mono ?_
        · repeat (first | exact Below.refl _ _ | refine Below.setCell ?_ (by simp <;> omega) _ | refine Below.alloc ?_ (by simp <;> omega) _)
        · repeat (first | exact Below.refl _ _ | refine Below.setCell ?_ (by simp <;> omega) _ | refine Below.alloc ?_ (by simp <;> omega) _)
        rintro e1 w1 ⟨rfl, hb⟩
        have HW := hide (show Below w.heap.size w w1 by
          refine Below.trans ?_ (hb.mono (by simp <;> omega))
          repeat (first | exact Below.refl _ _ | refine Below.setCell ?_ (by simp <;> omega) _ | refine Below.alloc ?_ (by simp <;> omega) _))
        clear hb
        go_wp2_with fail
        go_ret
        exact ⟨rfl, HW.out⟩
      · have hR2 : R = false := by simpa [h3] using hR
        subst hR2
        have hq : (n == n') = false := by simpa using h3
        clear hR
        go_enter Try.func44, Try.ntmps44
        go_wp2_with fail
        go_ret
        refine ⟨rfl, ?_⟩
        repeat (first | exact Below.refl _ _ | refine Below.setCell ?_ (by simp <;> omega) _ | refine Below.alloc ?_ (by simp <;> omega) _)
    · have hR2 : R = false := by simpa [h2] using hR
      subst hR2
      have hq : (y == y') = false := by simpa using h2
      clear hR
      go_enter Try.func44, Try.ntmps44
      go_wp2_with fail
      go_ret
      refine ⟨rfl, ?_⟩
      repeat (first | exact Below.refl _ _ | refine Below.setCell ?_ (by simp <;> omega) _ | refine Below.alloc ?_ (by simp <;> omega) _)
  · have hR2 : R = false := by simpa [h1] using hR
    subst hR2
    have hq : (e == e') = false := by simpa using h1
    clear hR
    go_enter Try.func44, Try.ntmps44
    go_wp2_with fail
    go_ret
    refine ⟨rfl, ?_⟩
    repeat (first | exact Below.refl _ _ | refine Below.setCell ?_ (by simp <;> omega) _ | refine Below.alloc ?_ (by simp <;> omega) _)
theorem sSame (e y n : Int) (O O' : Option Addr) (on oc on' oc' : Nat) (os os' : List Int) (s : Int) (G G' : Option Addr) (gn gc gn' gc' : Nat) (e' y' n' s' : Int) (w : World) (rO : Rd w w.heap.size 1 O on (in64 os)) (rO' : Rd w w.heap.size 1 O' on' (in64 os')) (hO : on ≤ 1048576) (hO' : on' ≤ 1048576) (R : Bool) (hR : R = decide (e = e' ∧ y = y' ∧ n = n' ∧ os = os')) :
    Calls Try.prog 42 #[resV e y n O on oc s G gn gc, resV e' y' n' O' on' oc' s' G' gn' gc'] w fun en w' => en = .returned (.bool R) ∧ Below w.heap.size w w' := by
  have HA := hide rO
  have HB := hide rO'
  have NA := hide hO
  have NB := hide hO'
  clear rO rO' hO hO'
  by_cases h1 : e = e'
  · subst h1
    by_cases h2 : y = y'
    · subst h2
      by_cases h3 : n = n'
      · subst h3
        have hR2 := hide (show R = decide (os = os') by simpa using hR)
        clear hR
        by_cases hl : on = on'
        · subst hl
          go_enter Try.func42, Try.ntmps42
          go_wp2_with fail
          refine (prefix_c e y n O O' on oc oc' os os' s G G' gn gc gn' gc' e y n s' _ (HA.out.bel ?_) (HB.out.bel ?_) NA.out R hR2.out).mono ?_
          · repeat (first | exact Below.refl _ _ | refine Below.setCell ?_ (by simp <;> omega) _ | refine Below.alloc ?_ (by simp <;> omega) _)
          · repeat (first | exact Below.refl _ _ | refine Below.setCell ?_ (by simp <;> omega) _ | refine Below.alloc ?_ (by simp <;> omega) _)
          rintro e1 w1 ⟨rfl, hb⟩
          have HW := hide (show Below w.heap.size w w1 by
            refine Below.trans ?_ (hb.mono (by simp <;> omega))
            repeat (first | exact Below.refl _ _ | refine Below.setCell ?_ (by simp <;> omega) _ | refine Below.alloc ?_ (by simp <;> omega) _))
          clear hb
          go_wp2_with fail
          go_ret
          exact ⟨rfl, HW.out⟩
        · have hR3 : R = false := by
            rw [hR2.out]
            refine decide_eq_false (fun h => hl ?_)
            rw [← rd_in64 HA.out, ← rd_in64 HB.out, h]
          subst hR3
          have hl2 : (on : Int) ≠ on' := by omega
          have hl3 : (on == on') = false := by simpa using hl
          go_enter Try.func42, Try.ntmps42
          go_wp2_with fail
          go_ret
          refine ⟨rfl, ?_⟩
          repeat (first | exact Below.refl _ _ | refine Below.setCell ?_ (by simp <;> omega) _ | refine Below.alloc ?_ (by simp <;> omega) _)
      · have hR2 : R = false := by simpa [h3] using hR
        subst hR2
        have hq : (n == n') = false := by simpa using h3
        clear hR
        go_enter Try.func42, Try.ntmps42
        go_wp2_with fail
        go_ret
        refine ⟨rfl, ?_⟩
        repeat (first | exact Below.refl _ _ | refine Below.setCell ?_ (by simp <;> omega) _ | refine Below.alloc ?_ (by simp <;> omega) _)
    · have hR2 : R = false := by simpa [h2] using hR
      subst hR2
      have hq : (y == y') = false := by simpa using h2
      clear hR
      go_enter Try.func42, Try.ntmps42
      go_wp2_with fail
      go_ret
      refine ⟨rfl, ?_⟩
      repeat (first | exact Below.refl _ _ | refine Below.setCell ?_ (by simp <;> omega) _ | refine Below.alloc ?_ (by simp <;> omega) _)
  · have hR2 : R = false := by simpa [h1] using hR
    subst hR2
    have hq : (e == e') = false := by simpa using h1
    clear hR
    go_enter Try.func42, Try.ntmps42
    go_wp2_with fail
    go_ret
    refine ⟨rfl, ?_⟩
    repeat (first | exact Below.refl _ _ | refine Below.setCell ?_ (by simp <;> omega) _ | refine Below.alloc ?_ (by simp <;> omega) _)
end Res
end Go.Proofs.Ytflecejioaokmaa
