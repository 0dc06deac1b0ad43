/- The laws' own copies and comparisons of a module's functions and data, which hold slices: a contract each. -/
import Derived.Test.YtiinkfejdnfonaaGreatDoorModT
namespace Go.Proofs.YtiinkfejdnfonaaGreatDoor.Mo
open Go.RowKit Go.Proofs.YtiinkfejdnfonaaGreatDoor.Num Go.Proofs.YtiinkfejdnfonaaGreatDoor.Mem Go.Proofs.YtiinkfejdnfonaaGreatDoor.Shape
set_option linter.unusedVariables false
theorem bcell {W w1 : World} (hb : Below W.heap.size W w1) : (∀ b o, b < W.heap.size → w1.cell? ⟨b, o, none⟩ = W.cell? ⟨b, o, none⟩) ∧ (∀ b o, b < W.heap.size → w1.frozen? ⟨b, o, none⟩ = W.frozen? ⟨b, o, none⟩) :=
  ⟨fun b o h => hb.cell (p := ⟨b, o, none⟩) h, fun b o h => hb.frozen (p := ⟨b, o, none⟩) h⟩
theorem own_set {w : World} {base e size n c b o : Nat} {A : Option Addr} {xs : List Value} {u : Value} (h : Ow w base e size A n c xs) (hp : b < base) : Ow (w.setCell ⟨b, o, none⟩ u) base e size A n c xs :=
  h.kept (row := some b) ⟨rfl, rfl, rfl, by simp, fun k _ hk => heap_setCell_other w ⟨b, o, none⟩ k u (fun e => hk (by simp [e]))⟩ (by
    rcases hbk : blk A with _ | g
    · exact .inl rfl
    · exact .inr (by have := (h.blk_lt g hbk).1; simp; omega))
/-- the inner rows can be read -/
def RdF (W : World) (B : Nat) (fs : List FV) : Prop := ∀ x ∈ fs, x.hd.2.1 ≤ 1048576 ∧ Rd W B 3 x.hd.1 x.hd.2.1 (insC x.body)
def RdD (W : World) (B : Nat) (fs : List DV) : Prop := ∀ x ∈ fs, x.hd.2.1 ≤ 1048576 ∧ Rd W B 1 x.hd.1 x.hd.2.1 (by8 x.bytes)
theorem RdF.bel {W W' : World} {fs : List FV} (h : RdF W W.heap.size fs) (hb : Below W.heap.size W W') : RdF W' W'.heap.size fs := fun x hx => ⟨(h x hx).1, (h x hx).2.bel hb⟩
theorem RdD.bel {W W' : World} {fs : List DV} (h : RdD W W.heap.size fs) (hb : Below W.heap.size W W') : RdD W' W'.heap.size fs := fun x hx => ⟨(h x hx).1, (h x hx).2.bel hb⟩
/-- the inner rows are the call's own, apart from each other -/
def OwF (W : World) (base : Nat) (e : TypeId) (fs : List FV) : Prop := (∀ x ∈ fs, x.hd.2.1 ≤ 1048576 ∧ Ow W base e 3 x.hd.1 x.hd.2.1 x.hd.2.2 (insC x.body)) ∧ fs.Pairwise fun a b => blk a.hd.1 = none ∨ blk a.hd.1 ≠ blk b.hd.1
def OwD (W : World) (base : Nat) (e : TypeId) (fs : List DV) : Prop := (∀ x ∈ fs, x.hd.2.1 ≤ 1048576 ∧ Ow W base e 1 x.hd.1 x.hd.2.1 x.hd.2.2 (by8 x.bytes)) ∧ fs.Pairwise fun a b => blk a.hd.1 = none ∨ blk a.hd.1 ≠ blk b.hd.1
theorem OwF.rd {W : World} {base : Nat} {e : TypeId} {fs : List FV} (h : OwF W base e fs) : RdF W W.heap.size fs := fun x hx => ⟨(h.1 x hx).1, (h.1 x hx).2.rd⟩
theorem OwF.below {W W' : World} {base : Nat} {e : TypeId} {fs : List FV} (h : OwF W base e fs) (hb : Below W.heap.size W W') : OwF W' base e fs := ⟨fun x hx => ⟨(h.1 x hx).1, (h.1 x hx).2.below hb (Nat.le_refl _)⟩, h.2⟩
theorem OwF.set {W : World} {base b o : Nat} {e : TypeId} {fs : List FV} {u : Value} (h : OwF W base e fs) (hp : b < base) : OwF (W.setCell ⟨b, o, none⟩ u) base e fs := ⟨fun x hx => ⟨(h.1 x hx).1, own_set (h.1 x hx).2 hp⟩, h.2⟩
theorem OwF.nil {W : World} {base : Nat} {e : TypeId} : OwF W base e [] := ⟨fun x hx => absurd hx (by simp), List.Pairwise.nil⟩
theorem OwF.snoc {W W' : World} {base : Nat} {e : TypeId} {fs : List FV} {x : FV} (h : OwF W base e fs) (hb : Below W.heap.size W W') (hB : base ≤ W.heap.size) (hn : x.hd.2.1 ≤ 1048576) (ho : Ow W' W.heap.size e 3 x.hd.1 x.hd.2.1 x.hd.2.2 (insC x.body)) : OwF W' base e (fs ++ [x]) := by
  refine ⟨fun y hy => ?_, List.pairwise_append.2 ⟨h.2, List.pairwise_singleton _ _, fun a ha b hb' => ?_⟩⟩
  · rcases List.mem_append.1 hy with hy | hy
    · exact (h.below hb).1 y hy
    · rw [List.mem_singleton.1 hy]
      exact ⟨hn, ho.base_le hB⟩
  · rw [List.mem_singleton.1 hb']
    exact blk_ne (h.1 a ha).2.lt ho.ge
theorem OwD.rd {W : World} {base : Nat} {e : TypeId} {fs : List DV} (h : OwD W base e fs) : RdD W W.heap.size fs := fun x hx => ⟨(h.1 x hx).1, (h.1 x hx).2.rd⟩
theorem OwD.below {W W' : World} {base : Nat} {e : TypeId} {fs : List DV} (h : OwD W base e fs) (hb : Below W.heap.size W W') : OwD W' base e fs := ⟨fun x hx => ⟨(h.1 x hx).1, (h.1 x hx).2.below hb (Nat.le_refl _)⟩, h.2⟩
theorem OwD.set {W : World} {base b o : Nat} {e : TypeId} {fs : List DV} {u : Value} (h : OwD W base e fs) (hp : b < base) : OwD (W.setCell ⟨b, o, none⟩ u) base e fs := ⟨fun x hx => ⟨(h.1 x hx).1, own_set (h.1 x hx).2 hp⟩, h.2⟩
theorem OwD.nil {W : World} {base : Nat} {e : TypeId} : OwD W base e [] := ⟨fun x hx => absurd hx (by simp), List.Pairwise.nil⟩
theorem OwD.snoc {W W' : World} {base : Nat} {e : TypeId} {fs : List DV} {x : DV} (h : OwD W base e fs) (hb : Below W.heap.size W W') (hB : base ≤ W.heap.size) (hn : x.hd.2.1 ≤ 1048576) (ho : Ow W' W.heap.size e 1 x.hd.1 x.hd.2.1 x.hd.2.2 (by8 x.bytes)) : OwD W' base e (fs ++ [x]) := by
  refine ⟨fun y hy => ?_, List.pairwise_append.2 ⟨h.2, List.pairwise_singleton _ _, fun a ha b hb' => ?_⟩⟩
  · rcases List.mem_append.1 hy with hy | hy
    · exact (h.below hb).1 y hy
    · rw [List.mem_singleton.1 hy]
      exact ⟨hn, ho.base_le hB⟩
  · rw [List.mem_singleton.1 hb']
    exact blk_ne (h.1 a ha).2.lt ho.ge
theorem EFunc : Elem Tryz.prog 36 84 (.agg #[.int .i64 0, .int .i64 0, .slice none 0 0]) 3 40 := Elem.mk_ Tryz.underlying36 (by kernel_rfl) rfl (by omega) (by omega)
set_option maxRecDepth 100000 in
theorem toFunc_c (s o : Int) (A : Option Addr) (n c : Nat) (l : List Ins3) (w : World) (hr : Rd w w.heap.size 3 A n (insC l)) (hn : n ≤ 1048576) :
    Calls Tryz.prog 83 #[.agg #[.int .i64 s, .int .i64 o, .slice A n c]] w fun e w' => ∃ A1 c1, e = .returned (.agg #[.int .i64 s, .int .i64 o, .slice A1 n c1]) ∧ Ow w' w.heap.size 139 3 A1 n c1 (insC l) ∧ Below w.heap.size w w' := by
  have HR := hide hr
  have HN := hide hn
  clear hr hn
  go_enter Tryz.func83, Tryz.ntmps83
  go_wp2_with fail
  refine (toInsS_c A n c l _ (HR.out.bel ?_) HN.out).mono ?_
  · repeat (first | exact Below.refl _ _ | refine bel_drewN ?_ _ | refine Below.setCell ?_ (by simp <;> omega) _ | refine Below.alloc ?_ (by simp <;> omega) _)
  rintro e1 w1 ⟨A1, c1, rfl, ho, hb⟩
  obtain ⟨hc, hf⟩ := bcell hb
  have hz : w.heap.size + 1 + 1 < w1.heap.size := by have := hb.size; simp at this; omega
  have hza : w.heap.size + 1 < w1.heap.size := by omega
  have hzb : w.heap.size < w1.heap.size := by omega
  have HB := hide (show Below w.heap.size w w1 by
    refine Below.trans ?_ (hb.mono (by simp <;> omega))
    repeat (first | exact Below.refl _ _ | refine bel_drewN ?_ _ | refine Below.setCell ?_ (by simp <;> omega) _ | refine Below.alloc ?_ (by simp <;> omega) _))
  have HO1 := hide (show Ow w1 (w.heap.size + 3) 139 3 A1 n c1 (insC l) by simpa using ho)
  clear ho hb
  go_wp2_with fail
  refine bodyPost_ret (v := .agg #[.int .i64 s, .int .i64 o, .slice A1 n c1]) (by simp [results, Tryz.results83, go_sem, hc]) rfl ⟨A1, c1, rfl, ?_, ?_⟩
  · refine Ow.base_le (base := w.heap.size + 3) ?_ (by omega)
    repeat refine own_set ?_ (by omega)
    exact HO1.out
  · repeat refine Below.setCell ?_ (by simp <;> omega) _
    exact HB.out
/-- functions or data, copied -/
def MadeFunc (n : Nat) (l : List FV) (w : World) (e : Ending) (w' : World) : Prop :=
  ∃ (A : Option Addr) (c : Nat) (gs : List FV), e = .returned (.slice A n c) ∧ gs.map FV.pl = l.map FV.pl ∧ Ow w' w.heap.size 84 3 A n c (fl funC gs) ∧ OwF w' (w.heap.size + 1) 139 gs ∧ (∀ g, blk A = some g → g < w.heap.size + 1) ∧ Below w.heap.size w w'
set_option maxRecDepth 100000 in
theorem toFuncS_c (A : Option Addr) (n c : Nat) (l : List FV) (w : World) (hr : Rd w w.heap.size 3 A n (fl funC l)) (hd : RdF w w.heap.size l) (hn : n ≤ 1048576) :
    Calls Tryz.prog 34 #[.slice A n c] w (MadeFunc n l w) := by
  have hn' : (n : Int) ≤ 1048576 := by omega
  have HR := hide hr
  have HRD := hide hd
  have HL := hide (rd_len funL (by omega) hr)
  have HN := hide (show 40 * n ≤ 281474976710656 by omega)
  clear hr hn hd
  go_enter Tryz.func34, Tryz.ntmps34
  go_wp2_with (at_make; refine mk_full rfl _ _ rfl EFunc n rfl rfl HN.out ?_; intro w1 hown hg)
  have HB := hide ((Below.refl w.heap.size w).grown hg (Nat.le_refl _) (by intro k hk; cases hk))
  rw [fl_made (f := funC) (x := (⟨0, 0, (none, 0, 0), []⟩ : FV)) funL (by omega) rfl] at hown
  have HO := hide hown
  have HS1 := hide (show w.heap.size + 1 ≤ w1.heap.size from (hown.blk_lt w.heap.size rfl).2)
  clear hown hg
  go_loopw [4] (fun i wr => ∃ (k : Nat) (gs : List FV), k ≤ n ∧ i = .int .i64 k ∧ Hid (gs.length = k) ∧ Hid (gs.map FV.pl = (l.take k).map FV.pl) ∧ Hid (Ow wr w.heap.size 84 3 (some ⟨w.heap.size, 0, none⟩) n n (fl funC (gs ++ List.replicate (n - k) (⟨0, 0, (none, 0, 0), []⟩ : FV)))) ∧ Hid (OwF wr (w.heap.size + 1) 139 gs) ∧ Hid (Below w.heap.size w wr) ∧ Hid (w.heap.size + 1 ≤ wr.heap.size)) (fun i _ => n - (intOf i).toNat)
  case atStart => exact ⟨0, [], Nat.zero_le _, rfl, hide rfl, hide rfl, hide (by simpa using HO.out), hide OwF.nil, HB, HS1⟩
  case round =>
    obtain ⟨k, gs, hk, rfl, HGL, HGM, H3, HD0, H2, HS⟩ := hrel
    by_cases hlt : k < n
    · obtain ⟨b, off, x, rfl, hx, hbg, hcell⟩ := rd_get (wr := wr) funL (by omega) HR.out k hlt (fun p hp => H2.out.cell hp)
      have HX := hide hx
      have HXR := hide (HRD.out x (List.mem_of_getElem? hx))
      obtain ⟨s, o, ⟨A2, n2, c2⟩, bd⟩ := x
      have hc0 : wr.cell? ⟨b, off + k * 3, none⟩ = some (.int .i64 s) := hcell 0 _ rfl
      have hc1 : wr.cell? ⟨b, off + k * 3 + 1, none⟩ = some (.int .i64 o) := hcell 1 _ rfl
      have hc2 : wr.cell? ⟨b, off + k * 3 + 2, none⟩ = some (.slice A2 n2 c2) := hcell 2 _ rfl
      have hi0 : (0 : Int) ≤ k := by omega
      have hi1 : (k : Int) < n := by omega
      clear hcell hx
      go_wp2_with
       (go_at_call 83
        refine (toFunc_c s o A2 n2 c2 bd wr (HXR.out.2.bel H2.out) HXR.out.1).mono ?_
        rintro e w2 ⟨A3, c3, rfl, ho3, hbt⟩
        have H4 := hide (H3.out.below hbt (Nat.le_refl _))
        have HD := hide (OwF.snoc (x := (⟨s, o, (A3, n2, c3), bd⟩ : FV)) HD0.out hbt HS.out HXR.out.1 ho3)
        have H5 := hide (bel_step H2.out hbt H2.out.size)
        have HS5 := hide (Nat.le_trans HS.out hbt.size)
        have hf0 : ∀ j, w2.frozen? ⟨w.heap.size, j, none⟩ = false := fun j => World.ownsRow.frozenAt H4.out j
        obtain ⟨u0, hu0⟩ := own_cell H4.out (k * 3) (by omega)
        obtain ⟨u1, hu1⟩ := own_cell H4.out (k * 3 + 1) (by omega)
        obtain ⟨u2, hu2⟩ := own_cell H4.out (k * 3 + 2) (by omega)
        clear hbt ho3)
      go_roundw
      case rel =>
        refine ⟨k + 1, gs ++ [(⟨s, o, (A3, n2, c3), bd⟩ : FV)], by omega, by go_num, hide (by simp [HGL.out]), hide ?_, hide ?_, hide ?_, hide ?_, hide ?_⟩
        · rw [List.map_append, HGM.out, List.take_add_one, HX.out, List.map_append]
          rfl
        · have e0 := (World.ownsRow.stored (World.ownsRow.stored (World.ownsRow.stored H4.out (k * 3) (.int .i64 s)).1 (k * 3 + 1) (.int .i64 o)).1 (k * 3 + 2) (.slice A3 n2 c3)).1
          rw [rep_open gs (⟨0, 0, (none, 0, 0), []⟩ : FV) n k hlt, fl_set3 funL gs (List.replicate (n - k - 1) (⟨0, 0, (none, 0, 0), []⟩ : FV)) (⟨s, o, (A3, n2, c3), bd⟩ : FV) (⟨0, 0, (none, 0, 0), []⟩ : FV) (.int .i64 s) (.int .i64 o) (.slice A3 n2 c3) rfl (k * 3) (by rw [HGL.out])] at e0
          rw [show n - (k + 1) = n - k - 1 by omega, List.append_assoc]
          exact e0
        · exact ((HD.out.set (b := w.heap.size) (o := k * 3) (u := .int .i64 s) (by omega)).set (b := w.heap.size) (o := k * 3 + 1) (u := .int .i64 o) (by omega)).set (b := w.heap.size) (o := k * 3 + 2) (u := .slice A3 n2 c3) (by omega)
        · exact ((H5.out.setCell (p := ⟨w.heap.size, _, none⟩) (Nat.le_refl _) _).setCell (p := ⟨w.heap.size, _, none⟩) (Nat.le_refl _) _).setCell (p := ⟨w.heap.size, _, none⟩) (Nat.le_refl _) _
        · simpa using HS5.out
      case measure => simp [intOf]; omega
    · obtain rfl : k = n := by omega
      have HF := hide (show Ow wr w.heap.size 84 3 (some ⟨w.heap.size, 0, none⟩) k k (fl funC gs) by
        have h := H3.out
        rw [Nat.sub_self] at h
        simpa using h)
      have HM := hide (show gs.map FV.pl = l.map FV.pl by
        have h := HGM.out
        rwa [List.take_of_length_le (by have := HL.out; omega)] at h)
      go_wp2_with fail
      go_ret
      exact ⟨_, _, gs, rfl, HM.out, HF.out, HD0.out, fun g hg => by cases hg; exact Nat.lt_succ_self _, H2.out⟩
theorem eqFunc_c (s o : Int) (A B : Option Addr) (n c d : Nat) (l : List Ins3) (w : World) (ha : Rd w w.heap.size 3 A n (insC l)) (hb : Rd w w.heap.size 3 B n (insC l)) (hn : n ≤ 1048576) :
    Calls Tryz.prog 96 #[.agg #[.int .i64 s, .int .i64 o, .slice A n c], .agg #[.int .i64 s, .int .i64 o, .slice B n d]] w fun e w' => e = .returned (.bool true) ∧ Below w.heap.size w w' := by
  have H1 := hide ha
  have H2 := hide hb
  have HN := hide hn
  clear ha hb hn
  go_enter Tryz.func96, Tryz.ntmps96
  go_wp2_with fail
  refine (eqInsS_c A B n c d l _ (H1.out.bel ?_) (H2.out.bel ?_) HN.out).mono ?_
  · repeat (first | exact Below.refl _ _ | refine bel_drewN ?_ _ | refine Below.setCell ?_ (by simp <;> omega) _ | refine Below.alloc ?_ (by simp <;> omega) _)
  · repeat (first | exact Below.refl _ _ | refine bel_drewN ?_ _ | refine Below.setCell ?_ (by simp <;> omega) _ | refine Below.alloc ?_ (by simp <;> omega) _)
  rintro e1 w1 ⟨rfl, hb⟩
  have HB := hide (show Below w.heap.size w w1 by refine Below.trans ?_ (hb.mono (by simp <;> omega)); repeat (first | exact Below.refl _ _ | refine bel_drewN ?_ _ | refine Below.setCell ?_ (by simp <;> omega) _ | refine Below.alloc ?_ (by simp <;> omega) _))
  clear hb
  go_wp2_with fail
  go_ret
  refine ⟨rfl, ?_⟩
  exact HB.out
set_option maxRecDepth 100000 in
theorem eqFuncS_c (A B : Option Addr) (n c d : Nat) (l m : List FV) (w : World) (ha : Rd w w.heap.size 3 A n (fl funC l)) (hb : Rd w w.heap.size 3 B n (fl funC m)) (hla : RdF w w.heap.size l) (hlb : RdF w w.heap.size m) (hm : l.map FV.pl = m.map FV.pl) (hn : n ≤ 1048576) :
    Calls Tryz.prog 59 #[.slice A n c, .slice B n d] w fun e w' => e = .returned (.bool true) ∧ Below w.heap.size w w' := by
  have hn' : (n : Int) ≤ 1048576 := by omega
  have HA := hide ha
  have HB := hide hb
  have HLA := hide hla
  have HLB := hide hlb
  have HM := hide hm
  clear ha hb hn hla hlb hm
  go_enter Tryz.func59, Tryz.ntmps59
  go_wp2_with fail
  go_loopw [5] (fun i wr => ∃ k : Nat, k ≤ n ∧ i = .int .i64 k ∧ Hid (Below w.heap.size w wr)) (fun i _ => n - (intOf i).toNat)
  case atStart => exact ⟨0, Nat.zero_le _, rfl, hide (Below.refl _ _)⟩
  case round =>
    obtain ⟨k, hk, rfl, H2⟩ := hrel
    by_cases hlt : k < n
    · obtain ⟨b, off, x, rfl, hx, hbg, hcell⟩ := rd_get (wr := wr) funL (by omega) HA.out k hlt (fun p hp => H2.out.cell hp)
      obtain ⟨b', off', x', rfl, hx', hbg', hcell'⟩ := rd_get (wr := wr) funL (by omega) HB.out k hlt (fun p hp => H2.out.cell hp)
      have h1 := HLA.out x (List.mem_of_getElem? hx)
      have h2 := HLB.out x' (List.mem_of_getElem? hx')
      have hpl : x.pl = x'.pl := by
        have h3 : (l.map FV.pl)[k]? = some x.pl := by rw [List.getElem?_map, hx]; rfl
        have h4 : (m.map FV.pl)[k]? = some x'.pl := by rw [List.getElem?_map, hx']; rfl
        rw [HM.out, h4] at h3
        exact (Option.some.inj h3).symm
      obtain ⟨s, o, ⟨A2, n2, c2⟩, bd⟩ := x
      obtain ⟨s', o', ⟨A2', n2', c2'⟩, bd'⟩ := x'
      simp only [FV.pl, Prod.mk.injEq] at hpl
      obtain ⟨rfl, rfl, rfl⟩ := hpl
      obtain rfl : n2 = n2' := by
        have e1 := rd_ins h1.2
        have e2 := rd_ins h2.2
        exact e1.symm.trans e2
      have G1 := hide h1
      have G2 := hide h2
      have hc0 : wr.cell? ⟨b, off + k * 3, none⟩ = some (.int .i64 s) := hcell 0 _ rfl
      have hc1 : wr.cell? ⟨b, off + k * 3 + 1, none⟩ = some (.int .i64 o) := hcell 1 _ rfl
      have hc2 : wr.cell? ⟨b, off + k * 3 + 2, none⟩ = some (.slice A2 n2 c2) := hcell 2 _ rfl
      have hd0 : wr.cell? ⟨b', off' + k * 3, none⟩ = some (.int .i64 s) := hcell' 0 _ rfl
      have hd1 : wr.cell? ⟨b', off' + k * 3 + 1, none⟩ = some (.int .i64 o) := hcell' 1 _ rfl
      have hd2 : wr.cell? ⟨b', off' + k * 3 + 2, none⟩ = some (.slice A2' n2 c2') := hcell' 2 _ rfl
      have hi0 : (0 : Int) ≤ k := by omega
      have hi1 : (k : Int) < n := by omega
      clear hcell hcell' hx hx' h1 h2
      go_wp2_with fail
      go_still_tail 8, (by kernel_rfl)
      have H3 := hide (bel_drewN H2.out 1)
      go_wp2_with
       (go_at_call 96
        refine (eqFunc_c s o A2 A2' n2 c2 c2' bd _ (G1.out.2.bel H3.out) (G2.out.2.bel H3.out) G1.out.1).mono ?_
        rintro e w2 ⟨rfl, hbt⟩)
      go_roundw
      case rel => exact ⟨k + 1, by omega, by go_num, hide (bel_step H2.out ⟨hbt.os, hbt.tape, hbt.output, hbt.size, hbt.block⟩ H2.out.size)⟩
      case measure => simp [intOf]; omega
    · obtain rfl : k = n := by omega
      go_wp2_with fail
      go_ret
      exact ⟨rfl, H2.out⟩
theorem EData : Elem Tryz.prog 39 93 (.agg #[.int .i64 0, .slice none 0 0]) 2 32 := Elem.mk_ Tryz.underlying39 (by kernel_rfl) rfl (by omega) (by omega)
set_option maxRecDepth 100000 in
theorem toData_c (o : Int) (A : Option Addr) (n c : Nat) (l : List Int) (w : World) (hr : Rd w w.heap.size 1 A n (by8 l)) (hn : n ≤ 1048576) :
    Calls Tryz.prog 86 #[.agg #[.int .i64 o, .slice A n c]] w fun e w' => ∃ A1 c1, e = .returned (.agg #[.int .i64 o, .slice A1 n c1]) ∧ Ow w' w.heap.size 5 1 A1 n c1 (by8 l) ∧ Below w.heap.size w w' := by
  have HR := hide hr
  have HN := hide hn
  clear hr hn
  go_enter Tryz.func86, Tryz.ntmps86
  go_wp2_with fail
  refine (toByteS_c A n c l _ (HR.out.bel ?_) (by have := HN.out; omega)).mono ?_
  · repeat (first | exact Below.refl _ _ | refine bel_drewN ?_ _ | refine Below.setCell ?_ (by simp <;> omega) _ | refine Below.alloc ?_ (by simp <;> omega) _)
  rintro e1 w1 ⟨A1, c1, rfl, ho, hb⟩
  obtain ⟨hc, hf⟩ := bcell hb
  have hz : w.heap.size + 1 + 1 < w1.heap.size := by have := hb.size; simp at this; omega
  have hza : w.heap.size + 1 < w1.heap.size := by omega
  have hzb : w.heap.size < w1.heap.size := by omega
  have HB := hide (show Below w.heap.size w w1 by
    refine Below.trans ?_ (hb.mono (by simp <;> omega))
    repeat (first | exact Below.refl _ _ | refine bel_drewN ?_ _ | refine Below.setCell ?_ (by simp <;> omega) _ | refine Below.alloc ?_ (by simp <;> omega) _))
  have HO1 := hide (show Ow w1 (w.heap.size + 3) 5 1 A1 n c1 (by8 l) by simpa using ho)
  clear ho hb
  go_wp2_with fail
  refine bodyPost_ret (v := .agg #[.int .i64 o, .slice A1 n c1]) (by simp [results, Tryz.results86, go_sem, hc]) rfl ⟨A1, c1, rfl, ?_, ?_⟩
  · refine Ow.base_le (base := w.heap.size + 3) ?_ (by omega)
    repeat refine own_set ?_ (by omega)
    exact HO1.out
  · repeat refine Below.setCell ?_ (by simp <;> omega) _
    exact HB.out
/-- functions or data, copied -/
def MadeData (n : Nat) (l : List DV) (w : World) (e : Ending) (w' : World) : Prop :=
  ∃ (A : Option Addr) (c : Nat) (gs : List DV), e = .returned (.slice A n c) ∧ gs.map DV.pl = l.map DV.pl ∧ Ow w' w.heap.size 93 2 A n c (fl datC gs) ∧ OwD w' (w.heap.size + 1) 5 gs ∧ (∀ g, blk A = some g → g < w.heap.size + 1) ∧ Below w.heap.size w w'
set_option maxRecDepth 100000 in
theorem toDataS_c (A : Option Addr) (n c : Nat) (l : List DV) (w : World) (hr : Rd w w.heap.size 2 A n (fl datC l)) (hd : RdD w w.heap.size l) (hn : n ≤ 1048576) :
    Calls Tryz.prog 37 #[.slice A n c] w (MadeData n l w) := by
  have hn' : (n : Int) ≤ 1048576 := by omega
  have HR := hide hr
  have HRD := hide hd
  have HL := hide (rd_len datL (by omega) hr)
  have HN := hide (show 32 * n ≤ 281474976710656 by omega)
  clear hr hn hd
  go_enter Tryz.func37, Tryz.ntmps37
  go_wp2_with (at_make; refine mk_full rfl _ _ rfl EData n rfl rfl HN.out ?_; intro w1 hown hg)
  have HB := hide ((Below.refl w.heap.size w).grown hg (Nat.le_refl _) (by intro k hk; cases hk))
  rw [fl_made (f := datC) (x := (⟨0, (none, 0, 0), []⟩ : DV)) datL (by omega) rfl] at hown
  have HO := hide hown
  have HS1 := hide (show w.heap.size + 1 ≤ w1.heap.size from (hown.blk_lt w.heap.size rfl).2)
  clear hown hg
  go_loopw [4] (fun i wr => ∃ (k : Nat) (gs : List DV), k ≤ n ∧ i = .int .i64 k ∧ Hid (gs.length = k) ∧ Hid (gs.map DV.pl = (l.take k).map DV.pl) ∧ Hid (Ow wr w.heap.size 93 2 (some ⟨w.heap.size, 0, none⟩) n n (fl datC (gs ++ List.replicate (n - k) (⟨0, (none, 0, 0), []⟩ : DV)))) ∧ Hid (OwD wr (w.heap.size + 1) 5 gs) ∧ Hid (Below w.heap.size w wr) ∧ Hid (w.heap.size + 1 ≤ wr.heap.size)) (fun i _ => n - (intOf i).toNat)
  case atStart => exact ⟨0, [], Nat.zero_le _, rfl, hide rfl, hide rfl, hide (by simpa using HO.out), hide OwD.nil, HB, HS1⟩
  case round =>
    obtain ⟨k, gs, hk, rfl, HGL, HGM, H3, HD0, H2, HS⟩ := hrel
    by_cases hlt : k < n
    · obtain ⟨b, off, x, rfl, hx, hbg, hcell⟩ := rd_get (wr := wr) datL (by omega) HR.out k hlt (fun p hp => H2.out.cell hp)
      have HX := hide hx
      have HXR := hide (HRD.out x (List.mem_of_getElem? hx))
      obtain ⟨o, ⟨A2, n2, c2⟩, bd⟩ := x
      have hc0 : wr.cell? ⟨b, off + k * 2, none⟩ = some (.int .i64 o) := hcell 0 _ rfl
      have hc1 : wr.cell? ⟨b, off + k * 2 + 1, none⟩ = some (.slice A2 n2 c2) := hcell 1 _ rfl
      have hi0 : (0 : Int) ≤ k := by omega
      have hi1 : (k : Int) < n := by omega
      clear hcell hx
      go_wp2_with
       (go_at_call 86
        refine (toData_c o A2 n2 c2 bd wr (HXR.out.2.bel H2.out) HXR.out.1).mono ?_
        rintro e w2 ⟨A3, c3, rfl, ho3, hbt⟩
        have H4 := hide (H3.out.below hbt (Nat.le_refl _))
        have HD := hide (OwD.snoc (x := (⟨o, (A3, n2, c3), bd⟩ : DV)) HD0.out hbt HS.out HXR.out.1 ho3)
        have H5 := hide (bel_step H2.out hbt H2.out.size)
        have HS5 := hide (Nat.le_trans HS.out hbt.size)
        have hf0 : ∀ j, w2.frozen? ⟨w.heap.size, j, none⟩ = false := fun j => World.ownsRow.frozenAt H4.out j
        obtain ⟨u0, hu0⟩ := own_cell H4.out (k * 2) (by omega)
        obtain ⟨u1, hu1⟩ := own_cell H4.out (k * 2 + 1) (by omega)
        clear hbt ho3)
      go_roundw
      case rel =>
        refine ⟨k + 1, gs ++ [(⟨o, (A3, n2, c3), bd⟩ : DV)], by omega, by go_num, hide (by simp [HGL.out]), hide ?_, hide ?_, hide ?_, hide ?_, hide ?_⟩
        · rw [List.map_append, HGM.out, List.take_add_one, HX.out, List.map_append]
          rfl
        · have e0 := (World.ownsRow.stored (World.ownsRow.stored H4.out (k * 2) (.int .i64 o)).1 (k * 2 + 1) (.slice A3 n2 c3)).1
          rw [rep_open gs (⟨0, (none, 0, 0), []⟩ : DV) n k hlt, fl_set2 datL gs (List.replicate (n - k - 1) (⟨0, (none, 0, 0), []⟩ : DV)) (⟨o, (A3, n2, c3), bd⟩ : DV) (⟨0, (none, 0, 0), []⟩ : DV) (.int .i64 o) (.slice A3 n2 c3) rfl (k * 2) (by rw [HGL.out])] at e0
          rw [show n - (k + 1) = n - k - 1 by omega, List.append_assoc]
          exact e0
        · exact (HD.out.set (b := w.heap.size) (o := k * 2) (u := .int .i64 o) (by omega)).set (b := w.heap.size) (o := k * 2 + 1) (u := .slice A3 n2 c3) (by omega)
        · exact (H5.out.setCell (p := ⟨w.heap.size, _, none⟩) (Nat.le_refl _) _).setCell (p := ⟨w.heap.size, _, none⟩) (Nat.le_refl _) _
        · simpa using HS5.out
      case measure => simp [intOf]; omega
    · obtain rfl : k = n := by omega
      have HF := hide (show Ow wr w.heap.size 93 2 (some ⟨w.heap.size, 0, none⟩) k k (fl datC gs) by
        have h := H3.out
        rw [Nat.sub_self] at h
        simpa using h)
      have HM := hide (show gs.map DV.pl = l.map DV.pl by
        have h := HGM.out
        rwa [List.take_of_length_le (by have := HL.out; omega)] at h)
      go_wp2_with fail
      go_ret
      exact ⟨_, _, gs, rfl, HM.out, HF.out, HD0.out, fun g hg => by cases hg; exact Nat.lt_succ_self _, H2.out⟩
theorem eqData_c (o : Int) (A B : Option Addr) (n c d : Nat) (l : List Int) (w : World) (ha : Rd w w.heap.size 1 A n (by8 l)) (hb : Rd w w.heap.size 1 B n (by8 l)) (hn : n ≤ 1048576) :
    Calls Tryz.prog 99 #[.agg #[.int .i64 o, .slice A n c], .agg #[.int .i64 o, .slice B n d]] w fun e w' => e = .returned (.bool true) ∧ Below w.heap.size w w' := by
  have H1 := hide ha
  have H2 := hide hb
  have HN := hide hn
  clear ha hb hn
  go_enter Tryz.func99, Tryz.ntmps99
  go_wp2_with fail
  refine (eqByteS_c A B n c d l _ (H1.out.bel ?_) (H2.out.bel ?_) (by have := HN.out; omega)).mono ?_
  · repeat (first | exact Below.refl _ _ | refine bel_drewN ?_ _ | refine Below.setCell ?_ (by simp <;> omega) _ | refine Below.alloc ?_ (by simp <;> omega) _)
  · repeat (first | exact Below.refl _ _ | refine bel_drewN ?_ _ | refine Below.setCell ?_ (by simp <;> omega) _ | refine Below.alloc ?_ (by simp <;> omega) _)
  rintro e1 w1 ⟨rfl, m, rfl⟩
  go_wp2_with fail
  go_ret
  refine ⟨rfl, ?_⟩
  repeat (first | exact Below.refl _ _ | refine bel_drewN ?_ _ | refine Below.setCell ?_ (by simp <;> omega) _ | refine Below.alloc ?_ (by simp <;> omega) _)
theorem rd_by8 {w : World} {B n : Nat} {A : Option Addr} {l : List Int} (h : Rd w B 1 A n (by8 l)) : l.length = n := by
  have := h.1
  simp only [by8, List.length_map] at this
  omega
set_option maxRecDepth 100000 in
theorem eqDataS_c (A B : Option Addr) (n c d : Nat) (l m : List DV) (w : World) (ha : Rd w w.heap.size 2 A n (fl datC l)) (hb : Rd w w.heap.size 2 B n (fl datC m)) (hla : RdD w w.heap.size l) (hlb : RdD w w.heap.size m) (hm : l.map DV.pl = m.map DV.pl) (hn : n ≤ 1048576) :
    Calls Tryz.prog 62 #[.slice A n c, .slice B n d] w fun e w' => e = .returned (.bool true) ∧ Below w.heap.size w w' := by
  have hn' : (n : Int) ≤ 1048576 := by omega
  have HA := hide ha
  have HB := hide hb
  have HLA := hide hla
  have HLB := hide hlb
  have HM := hide hm
  clear ha hb hn hla hlb hm
  go_enter Tryz.func62, Tryz.ntmps62
  go_wp2_with fail
  go_loopw [5] (fun i wr => ∃ k : Nat, k ≤ n ∧ i = .int .i64 k ∧ Hid (Below w.heap.size w wr)) (fun i _ => n - (intOf i).toNat)
  case atStart => exact ⟨0, Nat.zero_le _, rfl, hide (Below.refl _ _)⟩
  case round =>
    obtain ⟨k, hk, rfl, H2⟩ := hrel
    by_cases hlt : k < n
    · obtain ⟨b, off, x, rfl, hx, hbg, hcell⟩ := rd_get (wr := wr) datL (by omega) HA.out k hlt (fun p hp => H2.out.cell hp)
      obtain ⟨b', off', x', rfl, hx', hbg', hcell'⟩ := rd_get (wr := wr) datL (by omega) HB.out k hlt (fun p hp => H2.out.cell hp)
      have h1 := HLA.out x (List.mem_of_getElem? hx)
      have h2 := HLB.out x' (List.mem_of_getElem? hx')
      have hpl : x.pl = x'.pl := by
        have h3 : (l.map DV.pl)[k]? = some x.pl := by rw [List.getElem?_map, hx]; rfl
        have h4 : (m.map DV.pl)[k]? = some x'.pl := by rw [List.getElem?_map, hx']; rfl
        rw [HM.out, h4] at h3
        exact (Option.some.inj h3).symm
      obtain ⟨o, ⟨A2, n2, c2⟩, bd⟩ := x
      obtain ⟨o', ⟨A2', n2', c2'⟩, bd'⟩ := x'
      simp only [DV.pl, Prod.mk.injEq] at hpl
      obtain ⟨rfl, rfl⟩ := hpl
      obtain rfl : n2 = n2' := by
        have e1 := rd_by8 h1.2
        have e2 := rd_by8 h2.2
        exact e1.symm.trans e2
      have G1 := hide h1
      have G2 := hide h2
      have hc0 : wr.cell? ⟨b, off + k * 2, none⟩ = some (.int .i64 o) := hcell 0 _ rfl
      have hc1 : wr.cell? ⟨b, off + k * 2 + 1, none⟩ = some (.slice A2 n2 c2) := hcell 1 _ rfl
      have hd0 : wr.cell? ⟨b', off' + k * 2, none⟩ = some (.int .i64 o) := hcell' 0 _ rfl
      have hd1 : wr.cell? ⟨b', off' + k * 2 + 1, none⟩ = some (.slice A2' n2 c2') := hcell' 1 _ rfl
      have hi0 : (0 : Int) ≤ k := by omega
      have hi1 : (k : Int) < n := by omega
      clear hcell hcell' hx hx' h1 h2
      go_wp2_with fail
      go_still_tail 8, (by kernel_rfl)
      have H3 := hide (bel_drewN H2.out 1)
      go_wp2_with
       (go_at_call 99
        refine (eqData_c o A2 A2' n2 c2 c2' bd _ (G1.out.2.bel H3.out) (G2.out.2.bel H3.out) G1.out.1).mono ?_
        rintro e w2 ⟨rfl, hbt⟩)
      go_roundw
      case rel => exact ⟨k + 1, by omega, by go_num, hide (bel_step H2.out ⟨hbt.os, hbt.tape, hbt.output, hbt.size, hbt.block⟩ H2.out.size)⟩
      case measure => simp [intOf]; omega
    · obtain rfl : k = n := by omega
      go_wp2_with fail
      go_ret
      exact ⟨rfl, H2.out⟩
end Go.Proofs.YtiinkfejdnfonaaGreatDoor.Mo
