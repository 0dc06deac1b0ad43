/- An argument that is a module, opened. -/
import Derived.Test.YtiinkfejdnfonaaGreatDoorModM
import Derived.Test.YtiinkfejdnfonaaGreatDoorBodyL
import Derived.Lib.SmallJoins
namespace Go.Proofs.YtiinkfejdnfonaaGreatDoor
open Go.ChangeShapes Go.WideShapes Go.RowKit Go.Deep Go.Joins Go.Proofs.YtiinkfejdnfonaaGreatDoor.Num Go.Proofs.YtiinkfejdnfonaaGreatDoor.Mem Go.Proofs.YtiinkfejdnfonaaGreatDoor.Mo Go.Proofs.YtiinkfejdnfonaaGreatDoor.Shape
set_option linter.unusedVariables false
section
variable {H : Type} {enc : TypeId × Value → H} {P : Program} {w : World} {base : Nat} {spare : Nat → Bool} {held : Bool}
/-- a slice of structs, opened element by element -/
theorem open_list {α : Type} {f : α → List Value} {s : Nat} {Px : α → Prop} {t e : TypeId} {fs : Array Field} {fuel : Nat} {v : Value} {x : DataW H × List MemPlace}
    (hf : ∀ x, (f x).length = s) (hs0 : 0 < s) (hs : fs.size = s) (ht : P.underlying t = some (.slice e)) (he : P.underlying e = some (.struct fs)) (hone : oneCellFields P fs = true) (hC : P.cellsOf e = fs.size)
    (each : ∀ (a : Addr) (i n : Nat), (∀ (j : Nat) (g : Field), fs[j]? = some g → ∃ (v : Value) (y : DataW H × List MemPlace), w.cell? (a.add (i * s + j)) = some v ∧ DataW.trod enc P w base spare held n g.type [v] = some y) → ∃ x : α, (∀ j u, (f x)[j]? = some u → w.cell? (a.add (i * s + j)) = some u) ∧ Px x)
    (h : DataW.trod enc P w base spare held fuel t [v] = some x) :
    ∃ (A : Option Addr) (n c : Nat) (l : List α), v = .slice A n c ∧ n ≤ maxLen ∧ Rd w w.heap.size s A n (fl f l) ∧ ∀ x ∈ l, Px x := by
  rcases open_slice_fields ht he hone hC h with ⟨hcs, _⟩ | ⟨a, n, c, m, D, Pl, hcs, _, hl, hm, hmm, _, hi⟩
  · simp only [List.cons.injEq, and_true] at hcs
    exact ⟨none, 0, 0, [], hcs, Nat.zero_le _, ⟨by simp [fl], fun h => absurd h (Nat.lt_irrefl 0)⟩, fun x hx => by simp at hx⟩
  · simp only [List.cons.injEq, and_true] at hcs
    have hnm : n ≤ m := by rw [hmm]; split <;> omega
    have one : ∀ k, k < n → ∃ x : α, (∀ j u, (f x)[j]? = some u → w.cell? (a.add (k * s + j)) = some u) ∧ Px x := by
      intro k hk
      obtain ⟨ys, q, _, _, _, hfd⟩ := hi k (by omega)
      refine each a k q (fun j g hg => ?_)
      obtain ⟨v, y, hc, _, ht'⟩ := hfd j g hg
      rw [hs] at hc
      exact ⟨v, y, hc, ht'⟩
    have all : ∀ k, k ≤ n → ∃ l : List α, l.length = k ∧ (∀ j u, (fl f l)[j]? = some u → w.cell? (a.add j) = some u) ∧ ∀ x ∈ l, Px x := by
      intro k
      induction k with
      | zero => exact fun _ => ⟨[], rfl, fun j u hu => by simp [fl] at hu, fun x hx => by simp at hx⟩
      | succ k ih =>
        intro hk
        obtain ⟨l, hl, hc, hp⟩ := ih (by omega)
        obtain ⟨x, hx, hpx⟩ := one k (by omega)
        refine ⟨l ++ [x], by simp [hl], fun j u hu => ?_, fun y hy => ?_⟩
        · rw [fl_snoc] at hu
          have hll : (fl f l).length = k * s := by rw [fl_len hf, hl]
          by_cases hj : j < k * s
          · rw [List.getElem?_append_left (by omega)] at hu
            exact hc j u hu
          · rw [List.getElem?_append_right (by omega), hll] at hu
            have := hx (j - k * s) u hu
            rwa [show k * s + (j - k * s) = j by omega] at this
        · rcases List.mem_append.1 hy with hy | hy
          · exact hp y hy
          · rw [List.mem_singleton.1 hy]; exact hpx
    obtain ⟨l, hll, hc, hp⟩ := all n (Nat.le_refl n)
    refine ⟨some a, n, c, l, hcs, by omega, ⟨by rw [fl_len hf, hll], fun hn => ?_⟩, hp⟩
    obtain ⟨x, hx, _⟩ := one 0 (by omega)
    have hx0 : (f x)[0]? = some ((f x)[0]'(by rw [hf]; exact hs0)) := List.getElem?_eq_getElem _
    have c0 := hx 0 _ hx0
    obtain ⟨b, off, spot⟩ := a
    have hs : spot = none := by
      have := World.cell?_spot c0
      simpa [Addr.add] using this
    subst hs
    have hb : b < w.heap.size := by
      have := World.block_lt_of_cell? w _ c0
      simpa [Addr.add] using this
    refine ⟨b, off, rfl, hb, fun j u hu => ?_⟩
    have ha : (⟨b, off, none⟩ : Addr).add j = ⟨b, off + j, none⟩ := by unfold Addr.add; split <;> simp_all
    rw [← ha]
    exact hc j u hu
theorem open_agg8 {r : Reach} {b0 : Nat} {t : TypeId} {f0 f1 f2 f3 f4 f5 f6 f7 : Field} {v : Value} {d : DataW H} {p : List MemPlace} (hs : P.underlying t = some (.struct #[f0, f1, f2, f3, f4, f5, f6, f7])) (hone : oneCellFields P #[f0, f1, f2, f3, f4, f5, f6, f7] = true) (hC : P.cellsOf t = 8)
    (hv : Value.okWide P w r b0 t v) (h : DataW.Trod enc P w base spare held t v d p) :
    ∃ (v0 v1 v2 v3 v4 v5 v6 v7 : Value) (y0 y1 y2 y3 y4 y5 y6 y7 : DataW H × List MemPlace) (n : Nat), v = .agg #[v0, v1, v2, v3, v4, v5, v6, v7] ∧
      DataW.trod enc P w base spare held n f0.type [v0] = some y0 ∧ DataW.trod enc P w base spare held n f1.type [v1] = some y1 ∧ DataW.trod enc P w base spare held n f2.type [v2] = some y2 ∧ DataW.trod enc P w base spare held n f3.type [v3] = some y3 ∧ DataW.trod enc P w base spare held n f4.type [v4] = some y4 ∧ DataW.trod enc P w base spare held n f5.type [v5] = some y5 ∧ DataW.trod enc P w base spare held n f6.type [v6] = some y6 ∧ DataW.trod enc P w base spare held n f7.type [v7] = some y7 := by
  obtain ⟨cs, rfl, hsz⟩ := okWide_struct hs hv
  obtain ⟨l⟩ := cs
  match l, hsz.trans hC with
  | [c0, c1, c2, c3, c4, c5, c6, c7], _ =>
    obtain ⟨fuel, hf⟩ := h
    obtain ⟨xs, n, _, hx, _, hlen, hg⟩ := DataW.trod_struct hs hf
    obtain ⟨o0, k0⟩ := hone_of hone 0 f0 rfl
    obtain ⟨o1, k1⟩ := hone_of hone 1 f1 rfl
    obtain ⟨o2, k2⟩ := hone_of hone 2 f2 rfl
    obtain ⟨o3, k3⟩ := hone_of hone 3 f3 rfl
    obtain ⟨o4, k4⟩ := hone_of hone 4 f4 rfl
    obtain ⟨o5, k5⟩ := hone_of hone 5 f5 rfl
    obtain ⟨o6, k6⟩ := hone_of hone 6 f6 rfl
    obtain ⟨o7, k7⟩ := hone_of hone 7 f7 rfl
    match xs, hlen with
    | [y0, y1, y2, y3, y4, y5, y6, y7], _ =>
      exact ⟨c0, c1, c2, c3, c4, c5, c6, c7, y0, y1, y2, y3, y4, y5, y6, y7, n, rfl, by simpa [Value.cells, o0, k0] using hg 0 f0 rfl, by simpa [Value.cells, o1, k1] using hg 1 f1 rfl, by simpa [Value.cells, o2, k2] using hg 2 f2 rfl, by simpa [Value.cells, o3, k3] using hg 3 f3 rfl, by simpa [Value.cells, o4, k4] using hg 4 f4 rfl, by simpa [Value.cells, o5, k5] using hg 5 f5 rfl, by simpa [Value.cells, o6, k6] using hg 6 f6 rfl, by simpa [Value.cells, o7, k7] using hg 7 f7 rfl⟩
end
def ins3 (x : Ins3) : List Value := [.int .i64 x.1, .int .i64 x.2.1, .int .i64 x.2.2]
theorem fl_ins : ∀ l : List Ins3, fl ins3 l = insC l
  | [] => rfl
  | x :: l => by rw [fl, fl_ins l]; rfl
section
variable {H : Type} {enc : TypeId × Value → H} {w : World} {spare : Nat → Bool} {held : Bool} {fuel : Nat} {v : Value} {x : DataW H × List MemPlace}
theorem cell3 {a : Addr} {k s : Nat} {u0 u1 u2 : Value} (c0 : w.cell? (a.add (k * s + 0)) = some u0) (c1 : w.cell? (a.add (k * s + 1)) = some u1) (c2 : w.cell? (a.add (k * s + 2)) = some u2) : ∀ j u, [u0, u1, u2][j]? = some u → w.cell? (a.add (k * s + j)) = some u := by
  intro j u hu
  match j, hu with
  | 0, hu => simp only [List.getElem?_cons_zero, Option.some.injEq] at hu; rw [← hu]; exact c0
  | 1, hu => simp only [List.getElem?_cons_succ, List.getElem?_cons_zero, Option.some.injEq] at hu; rw [← hu]; exact c1
  | 2, hu => simp only [List.getElem?_cons_succ, List.getElem?_cons_zero, Option.some.injEq] at hu; rw [← hu]; exact c2
  | q + 3, hu => simp at hu
theorem cell2 {a : Addr} {k s : Nat} {u0 u1 : Value} (c0 : w.cell? (a.add (k * s + 0)) = some u0) (c1 : w.cell? (a.add (k * s + 1)) = some u1) : ∀ j u, [u0, u1][j]? = some u → w.cell? (a.add (k * s + j)) = some u := by
  intro j u hu
  match j, hu with
  | 0, hu => simp only [List.getElem?_cons_zero, Option.some.injEq] at hu; rw [← hu]; exact c0
  | 1, hu => simp only [List.getElem?_cons_succ, List.getElem?_cons_zero, Option.some.injEq] at hu; rw [← hu]; exact c1
  | q + 2, hu => simp at hu
theorem int_of {n : Nat} {v : Value} {y : DataW H × List MemPlace} (h : DataW.trod enc Tryz.prog w 0 spare held n 3 [v] = some y) : ∃ a : Int, v = .int .i64 a := by
  obtain ⟨a, e, _, _⟩ := DataW.trod_int Tryz.underlying3 h
  simp only [List.cons.injEq, and_true] at e
  exact ⟨a, e⟩
theorem bool_of {n : Nat} {v : Value} {y : DataW H × List MemPlace} (h : DataW.trod enc Tryz.prog w 0 spare held n 4 [v] = some y) : ∃ a : Bool, v = .bool a := by
  obtain ⟨a, e, _⟩ := DataW.trod_bool Tryz.underlying4 h
  simp only [List.cons.injEq, and_true] at e
  exact ⟨a, e⟩
theorem str_of {n : Nat} {v : Value} {y : DataW H × List MemPlace} (h : DataW.trod enc Tryz.prog w 0 spare held n 9 [v] = some y) : ∃ a : ByteArray, v = .string a ∧ (a.size : Int) ≤ 9223372036854775807 := by
  obtain ⟨a, e, _, hm⟩ := DataW.trod_string Tryz.underlying9 h
  simp only [List.cons.injEq, and_true] at e
  exact ⟨a, e, by unfold maxLen at hm; omega⟩
theorem ins_of {n : Nat} (h : DataW.trod enc Tryz.prog w 0 spare held n 109 [v] = some x) : ∃ (A : Option Addr) (n c : Nat) (l : List Ins3), v = .slice A n c ∧ n ≤ maxLen ∧ Rd w w.heap.size 3 A n (insC l) := by
  obtain ⟨A, n, c, l, hv, hn, hr, _⟩ := open_list (f := ins3) (s := 3) (Px := fun _ => True) (fun _ => rfl) (by omega) rfl Tryz.underlying109 Tryz.underlying153 (by kernel_rfl) (by kernel_rfl)
    (fun a i n hd => by
      obtain ⟨v0, y0, c0, t0⟩ := hd 0 _ rfl
      obtain ⟨v1, y1, c1, t1⟩ := hd 1 _ rfl
      obtain ⟨v2, y2, c2, t2⟩ := hd 2 _ rfl
      obtain ⟨a0, rfl⟩ := int_of t0
      obtain ⟨a1, rfl⟩ := int_of t1
      obtain ⟨a2, rfl⟩ := int_of t2
      exact ⟨(a0, a1, a2), cell3 c0 c1 c2, trivial⟩) h
  rw [fl_ins] at hr
  exact ⟨A, n, c, l, hv, hn, hr⟩
theorem bytes_of {n : Nat} (h : DataW.trod enc Tryz.prog w 0 spare held n 31 [v] = some x) : ∃ (A : Option Addr) (n c : Nat) (l : List Int), v = .slice A n c ∧ n ≤ maxLen ∧ Rd w w.heap.size 1 A n (by8 l) := by
  rcases open_ints Tryz.underlying31 Tryz.underlying5 (by kernel_rfl) h with ⟨hcs, _⟩ | ⟨a, l, c', zs, hcs, _, hl, hm, hz, _, hcell, hwz⟩
  · simp only [List.cons.injEq, and_true] at hcs
    exact ⟨none, 0, 0, [], hcs, Nat.zero_le _, ⟨rfl, fun h => absurd h (Nat.lt_irrefl 0)⟩⟩
  · simp only [List.cons.injEq, and_true] at hcs
    have hzl : l ≤ zs.length := by rw [hz]; split <;> omega
    refine ⟨some a, l, c', zs.take l, hcs, by omega, ⟨by simp [by8]; omega, fun hn => ?_⟩⟩
    have h0 := hcell 0 (by omega)
    obtain ⟨b, off, spot⟩ := a
    have hs : spot = none := by
      have := World.cell?_spot h0
      simpa [Addr.add] using this
    subst hs
    have hb : b < w.heap.size := by
      have := World.block_lt_of_cell? w _ h0
      simpa [Addr.add] using this
    refine ⟨b, off, rfl, hb, fun j u hu => ?_⟩
    unfold by8 at hu
    rw [List.getElem?_map] at hu
    obtain ⟨y, hy, rfl⟩ := Option.map_eq_some_iff.1 hu
    have hj : j < (zs.take l).length := (List.getElem?_eq_some_iff.1 hy).1
    have hj2 : j < zs.length := by simp at hj; omega
    have := hcell j hj2
    have ha : (⟨b, off, none⟩ : Addr).add j = ⟨b, off + j, none⟩ := by unfold Addr.add; split <;> simp_all
    rw [ha] at this
    rw [this]
    rw [List.getElem?_take] at hy
    split at hy
    · simp [List.getD, hy]
    · cases hy
set_option maxRecDepth 100000 in
theorem open_mod {r : Reach} {b0 : Nat} {d : DataW H} {p : List MemPlace} (hv : Value.okWide Tryz.prog w r b0 29 v) (h : DataW.Trod enc Tryz.prog w 0 spare held 29 v d p) :
    ∃ a : MV, v = a.v ∧ a.Reads w ∧ a.Long 9223372036854775807 := by
  have hL : ∀ n : Nat, n ≤ maxLen → (n : Int) ≤ 9223372036854775807 := fun n h => by unfold maxLen at h; omega
  obtain ⟨v0, v1, v2, v3, v4, v5, v6, v7, y0, y1, y2, y3, y4, y5, y6, y7, n, rfl, t0, t1, t2, t3, t4, t5, t6, t7⟩ := open_agg8 Tryz.underlying29 (by kernel_rfl) (by kernel_rfl) hv h
  obtain ⟨S, Sn, Sc, sigs, rfl, hSn, rS, _⟩ := open_list (f := sigC) (s := 2) (Px := fun _ => True) sigL (by omega) rfl Tryz.underlying22 Tryz.underlying120 (by kernel_rfl) (by kernel_rfl)
    (fun a i n hd => by
      obtain ⟨v0, y0, c0, t0⟩ := hd 0 _ rfl
      obtain ⟨v1, y1, c1, t1⟩ := hd 1 _ rfl
      obtain ⟨a0, rfl⟩ := int_of t0
      obtain ⟨a1, rfl⟩ := int_of t1
      exact ⟨(a0, a1), cell2 c0 c1, trivial⟩) t0
  obtain ⟨I, In, Ic, imps, rfl, hIn, rI, hI⟩ := open_list (f := impC) (s := 3) (Px := fun x => (x.1.size : Int) ≤ 9223372036854775807 ∧ (x.2.1.size : Int) ≤ 9223372036854775807) impL (by omega) rfl Tryz.underlying23 Tryz.underlying107 (by kernel_rfl) (by kernel_rfl)
    (fun a i n hd => by
      obtain ⟨v0, y0, c0, t0⟩ := hd 0 _ rfl
      obtain ⟨v1, y1, c1, t1⟩ := hd 1 _ rfl
      obtain ⟨v2, y2, c2, t2⟩ := hd 2 _ rfl
      obtain ⟨a0, rfl, h0⟩ := str_of t0
      obtain ⟨a1, rfl, h1⟩ := str_of t1
      obtain ⟨a2, rfl⟩ := int_of t2
      exact ⟨(a0, a1, a2), cell3 c0 c1 c2, h0, h1⟩) t1
  obtain ⟨F, Fn, Fc, funs, rfl, hFn, rF, hF⟩ := open_list (f := funC) (s := 3) (Px := fun x => (x.hd.2.1 : Int) ≤ 9223372036854775807 ∧ Rd w w.heap.size 3 x.hd.1 x.hd.2.1 (insC x.body)) funL (by omega) rfl Tryz.underlying24 Tryz.underlying111 (by kernel_rfl) (by kernel_rfl)
    (fun a i n hd => by
      obtain ⟨v0, y0, c0, t0⟩ := hd 0 _ rfl
      obtain ⟨v1, y1, c1, t1⟩ := hd 1 _ rfl
      obtain ⟨v2, y2, c2, t2⟩ := hd 2 _ rfl
      obtain ⟨a0, rfl⟩ := int_of t0
      obtain ⟨a1, rfl⟩ := int_of t1
      obtain ⟨B, m, q, l, rfl, hm, hr⟩ := ins_of t2
      exact ⟨⟨a0, a1, (B, m, q), l⟩, cell3 c0 c1 c2, hL _ hm, hr⟩) t2
  obtain ⟨pg, rfl⟩ := int_of t3
  obtain ⟨mo, rfl⟩ := int_of t4
  obtain ⟨G, Gn, Gc, glos, rfl, hGn, rG, _⟩ := open_list (f := gloC) (s := 2) (Px := fun _ => True) gloL (by omega) rfl Tryz.underlying25 Tryz.underlying124 (by kernel_rfl) (by kernel_rfl)
    (fun a i n hd => by
      obtain ⟨v0, y0, c0, t0⟩ := hd 0 _ rfl
      obtain ⟨v1, y1, c1, t1⟩ := hd 1 _ rfl
      obtain ⟨a0, rfl⟩ := bool_of t0
      obtain ⟨a1, rfl⟩ := int_of t1
      exact ⟨(a0, a1), cell2 c0 c1, trivial⟩) t5
  obtain ⟨E, En, Ec, exps, rfl, hEn, rE, hE⟩ := open_list (f := expC) (s := 3) (Px := fun x => (x.1.size : Int) ≤ 9223372036854775807) expL (by omega) rfl Tryz.underlying26 Tryz.underlying113 (by kernel_rfl) (by kernel_rfl)
    (fun a i n hd => by
      obtain ⟨v0, y0, c0, t0⟩ := hd 0 _ rfl
      obtain ⟨v1, y1, c1, t1⟩ := hd 1 _ rfl
      obtain ⟨v2, y2, c2, t2⟩ := hd 2 _ rfl
      obtain ⟨a0, rfl, h0⟩ := str_of t0
      obtain ⟨a1, rfl⟩ := int_of t1
      obtain ⟨a2, rfl⟩ := int_of t2
      exact ⟨(a0, a1, a2), cell3 c0 c1 c2, h0⟩) t6
  obtain ⟨D, Dn, Dc, dats, rfl, hDn, rD, hD⟩ := open_list (f := datC) (s := 2) (Px := fun x => (x.hd.2.1 : Int) ≤ 9223372036854775807 ∧ Rd w w.heap.size 1 x.hd.1 x.hd.2.1 (by8 x.bytes)) datL (by omega) rfl Tryz.underlying27 Tryz.underlying115 (by kernel_rfl) (by kernel_rfl)
    (fun a i n hd => by
      obtain ⟨v0, y0, c0, t0⟩ := hd 0 _ rfl
      obtain ⟨v1, y1, c1, t1⟩ := hd 1 _ rfl
      obtain ⟨a0, rfl⟩ := int_of t0
      obtain ⟨B, m, q, l, rfl, hm, hr⟩ := bytes_of t1
      exact ⟨⟨a0, (B, m, q), l⟩, cell2 c0 c1, hL _ hm, hr⟩) t7
  exact ⟨⟨(S, Sn, Sc), (I, In, Ic), (F, Fn, Fc), pg, mo, (G, Gn, Gc), (E, En, Ec), (D, Dn, Dc), sigs, imps, funs, glos, exps, dats⟩, rfl,
    ⟨rS, rI, rF, fun x hx => (hF x hx).2, rG, rE, rD, fun x hx => (hD x hx).2⟩,
    ⟨hL _ hSn, hL _ hIn, hI, hL _ hFn, fun x hx => (hF x hx).1, hL _ hGn, hL _ hEn, hE, hL _ hDn, fun x hx => (hD x hx).1⟩⟩
end
end Go.Proofs.YtiinkfejdnfonaaGreatDoor
