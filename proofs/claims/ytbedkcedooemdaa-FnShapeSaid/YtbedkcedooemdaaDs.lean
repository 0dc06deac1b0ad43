/- What the generators of bodies draw: a contract each. -/
import Derived.Test.YtbedkcedooemdaaDrawG
import Derived.Test.YtbedkcedooemdaaInsC
import Derived.Deep.RegionLaw
namespace Go.Proofs.Ytbedkcedooemdaa.Draw
open Go.RowKit Go.Proofs.Ytbedkcedooemdaa.Num Go.Proofs.Ytbedkcedooemdaa.NumC Go.Proofs.Ytbedkcedooemdaa.Mem Go.Proofs.Ytbedkcedooemdaa.Shape Go.Proofs.Ytbedkcedooemdaa.Body Go.Proofs.Ytbedkcedooemdaa.Ops
set_option linter.unusedVariables false
theorem cur_bel {w w' : World} {g : Nat} {A : Option Addr} {n c : Nat} {bs : List Int} (hc : Cur w g A n c bs) (hb : Below w.heap.size w w') : Cur w' g A n c bs :=
  cur_grown (row := none) hc ⟨hb.os, hb.tape, hb.output, hb.size, fun k hk _ => hb.block k hk⟩ (fun b e => by cases e)
theorem gr_bel {w0 w w' : World} {row : Option Nat} (h : w0.grownBy w row) (hb : Below w.heap.size w w') : w0.grownBy w' row :=
  ⟨hb.os.trans h.os, hb.tape.trans h.tape, hb.output.trans h.output, Nat.le_trans h.size hb.size, fun k hk hne => (hb.block k (Nat.lt_of_lt_of_le hk h.size)).trans (h.block k hk hne)⟩
theorem own_ne {w1 : World} {g base e size n c : Nat} {A : Option Addr} {xs : List Value} (ho : Ow w1 base e size A n c xs) (hg : g < base) : blk A = none ∨ blk A ≠ some g := by
  rcases hbk : blk A with _ | b
  · exact .inl rfl
  · exact .inr (by have := (ho.blk_lt b hbk).1; simp; omega)
theorem one3d (a b c : Int) : ∀ u ∈ (#[Value.int .i64 a, Value.int .i64 b, Value.int .i64 c] : Array Value).toList, u.oneCell' = true := by
  intro u hu
  simp only [List.mem_cons, List.not_mem_nil, or_false] at hu
  rcases hu with rfl | rfl | rfl <;> rfl
theorem cg_set {w0 w : World} {g : Nat} {A : Option Addr} {n c : Nat} {bs : List Int} {b j : Nat} {u : Value} (h : Cur w g A n c bs ∧ w0.grownBy w (some g)) (hb : w0.heap.size ≤ b) (hg : g < w0.heap.size) :
    Cur (w.setCell ⟨b, j, none⟩ u) g A n c bs ∧ w0.grownBy (w.setCell ⟨b, j, none⟩ u) (some g) :=
  have k : w.grownBy (w.setCell ⟨b, j, none⟩ u) (some b) := gr_set (World.grownBy.refl w (some b))
  ⟨cur_grown h.1 k (fun b' e => by injection e with e; omega), gr_new h.2 k (fun b' e => by injection e with e; omega)⟩
/-- an instruction, drawn -/
def Blk (W : World) (b : Nat) (cs : Array Value) (t : TypeId) : Prop := W.heap[b]? = some (.cells cs t (0, 0))
section
variable {W W' : World} {b b' j : Nat} {cs : Array Value} {t : TypeId} {v : Value}
theorem Blk.new (W : World) (cs : Array Value) (t : TypeId) : Blk (W.alloc (.cells cs t)) W.heap.size cs t := heap_alloc_new W _
theorem Blk.lt (h : Blk W b cs t) : b < W.heap.size := (Array.getElem?_eq_some_iff.1 h).1
theorem Blk.cell (h : Blk W b cs t) (j : Nat) : W.cell? ⟨b, j, none⟩ = cs[j]? := cell_of_row W b j cs t (0, 0) h
theorem Blk.frozen (h : Blk W b cs t) (j : Nat) : W.frozen? ⟨b, j, none⟩ = false := frozen_of_row W b j cs t h
theorem Blk.set (h : Blk W b cs t) (j : Nat) (v : Value) : Blk (W.setCell ⟨b, j, none⟩ v) b (cs.setIfInBounds j v) t := heap_setCell_same W b j cs t v h
theorem Blk.other (h : Blk W b cs t) (hb : b ≠ b') : Blk (W.setCell ⟨b', j, none⟩ v) b cs t := (heap_setCell_other W ⟨b', j, none⟩ b v hb).trans h
theorem Blk.alloc (h : Blk W b cs t) (o : Obj) : Blk (W.alloc o) b cs t := (heap_alloc_old W o h.lt).trans h
theorem Blk.drewN (h : Blk W b cs t) (k : Nat) : Blk (W.drewN k) b cs t := h
theorem Blk.grown {row : Option Nat} (h : Blk W b cs t) (hg : W.grownBy W' row) (hr : row ≠ some b) : Blk W' b cs t := (hg.block b h.lt (fun e => hr e.symm)).trans h
theorem Blk.bel (h : Blk W b cs t) (hb : Below W.heap.size W W') : Blk W' b cs t := (hb.block b h.lt).trans h
end
def OneIns (g : Nat) (A : Option Addr) (n c : Nat) (bs : List Int) (w : World) (e : Ending) (w' : World) : Prop :=
  ∃ op a b : Int, e = .returned (.agg #[.int .i64 op, .int .i64 a, .int .i64 b]) ∧ Cur w' g A n c bs ∧ w.grownBy w' (some g)
/-- a body, drawn into new memory -/
def BodyG (m : Nat) (g : Nat) (A : Option Addr) (n c : Nat) (bs : List Int) (w : World) (e : Ending) (w' : World) : Prop :=
  ∃ (B : Option Addr) (d : Nat) (l : List Ins3), e = .returned (.slice B l.length d) ∧ l.length ≤ m ∧ Ow w' w.heap.size 27 3 B l.length d (insC l) ∧ Cur w' g A n c bs ∧ w.grownBy w' (some g)
theorem ops24_c (w : World) : Calls Try.prog 23 #[] w fun e w' => ∃ L : List Int, L.length = 24 ∧ Fresh 3 1 24 (in64 L) w e w' := by
  go_enter Try.func23, Try.ntmps23
  go_wp2_with fail
  go_ret
  exact ⟨[0, 1, 2, 3, 4, 5, 11, 12, 13, 15, 16, 26, 27, 32, 33, 34, 35, 36, 40, 54, 63, 64, 65, 69], rfl, _, _, rfl, World.ownsRow_lit w _ 24 (Nat.le_refl _) (by decide) rfl, (Below.refl _ _).alloc (Nat.le_refl _) _⟩
def KR (base m : Nat) (A : Option Addr) (c : Nat) (w0 w : World) : Prop := (∃ L : List Int, L.length = m ∧ Ow w base 3 1 A m c (in64 L)) ∧ Below base w0 w
theorem kr_step {base m : Nat} {A B : Option Addr} {c d : Nat} {w0 w w' : World} {x : Int} (h : KR base m A c w0 w) (hb : base ≤ w.heap.size)
    (ho : ∀ L : List Int, Ow w base 3 1 A m c (in64 L) → Ow w' base 3 1 B (m + 1) d (in64 L ++ [.int .i64 x])) (hg : w.grownBy w' (blk A)) : KR base (m + 1) B d w0 w' := by
  obtain ⟨⟨L, hL, hO⟩, hB⟩ := h
  refine ⟨⟨L ++ [x], by simp [hL], by simpa [in64] using ho L hO⟩, bel_grown hB hg hb (fun g hg => (hO.blk_lt g hg).1)⟩
set_option maxRecDepth 100000 in
theorem known_c (w : World) : Calls Try.prog 20 #[] w fun e w' => ∃ (A : Option Addr) (c : Nat), e = .returned (.slice A 52 c) ∧ KR w.heap.size 52 A c w w' := by
  go_enter Try.func20, Try.ntmps20
  go_wp2_with fail
  refine (ops24_c w).mono ?_
  rintro e w1 ⟨L0, hL0, A0, c0, rfl, ho0, hb0⟩
  have H0 := hide (show KR w.heap.size 24 A0 c0 w w1 from ⟨⟨L0, hL0, ho0⟩, hb0⟩)
  clear hL0 ho0 hb0
  go_wp2_with fail
  go_loopw [1, 2] (fun s i wr => ∃ (k : Nat) (A : Option Addr) (c : Nat), k ≤ 10 ∧ i = .int .i64 (70 + k) ∧ s = .slice A (24 + k) c ∧ Hid (KR w.heap.size (24 + k) A c w wr)) (fun _ i _ => 80 - (intOf i).toNat)
  case atStart => exact ⟨0, A0, c0, Nat.zero_le _, rfl, rfl, H0⟩
  case round =>
    obtain ⟨k, A, c, hk, rfl, rfl, HO⟩ := hrel
    by_cases hlt : k < 10
    · have hi : (70 : Int) + k ≤ 79 := by omega
      obtain ⟨L, hL, hO⟩ := HO.out.1
      have HOw := hide hO
      have HBw := hide HO.out.2
      have HL := hide hL
      clear hL hO HO
      go_wp2_with (at_builtin; refine app1 rfl _ _ rfl rfl rfl EIo HOw.out rfl (one64o _) (by omega) HBw.out.size ?_; intro B3 d3 w3 ho3 hg3 hl3)
      go_roundw
      case rel =>
        refine ⟨k + 1, B3, d3, by omega, by go_num, rfl, hide ⟨⟨L ++ [70 + (k : Int)], by rw [List.length_append, HL.out]; simp; omega, ?_⟩, bel_grown HBw.out hg3 HBw.out.size (fun g hg => (HOw.out.blk_lt g hg).1)⟩⟩
        rw [← Nat.add_assoc, in64_appo]
        exact ho3
      case measure => simp [intOf]; omega
    · obtain rfl : k = 10 := by omega
      go_wp2_with fail
      clear hlt hk
      have H34 := hide (show KR w.heap.size 34 A c w wr from HO.out)
      clear HO
      go_loopw [1, 3] (fun s i wq => ∃ (k : Nat) (A : Option Addr) (c : Nat), k ≤ 18 ∧ i = .int .i64 (103 + k) ∧ s = .slice A (34 + k) c ∧ Hid (KR w.heap.size (34 + k) A c w wq)) (fun _ i _ => 130 - (intOf i).toNat)
      case atStart => exact ⟨0, A, c, Nat.zero_le _, rfl, rfl, H34⟩
      case round =>
        obtain ⟨k, A, c, hk, rfl, rfl, HO⟩ := hrel
        by_cases hlt : k < 18
        · have hi : (103 : Int) + k ≤ 120 := by omega
          obtain ⟨L, hL, hO⟩ := HO.out.1
          have HOw := hide hO
          have HBw := hide HO.out.2
          have HL := hide hL
          clear hL hO HO
          go_wp2_with (at_builtin; refine app1 rfl _ _ rfl rfl rfl EIo HOw.out rfl (one64o _) (by omega) HBw.out.size ?_; intro B3 d3 w3 ho3 hg3 hl3)
          go_roundw
          case rel =>
            refine ⟨k + 1, by omega, by go_num, B3, d3, ⟨rfl, by omega, rfl⟩, hide ⟨⟨L ++ [103 + (k : Int)], by rw [List.length_append, HL.out]; simp; omega, ?_⟩, bel_grown HBw.out hg3 HBw.out.size (fun g hg => (HOw.out.blk_lt g hg).1)⟩⟩
            rw [← Nat.add_assoc, in64_appo]
            exact ho3
          case measure => simp [intOf]; omega
        · obtain rfl : k = 18 := by omega
          go_wp2_with fail
          go_ret
          exact ⟨A, c, rfl, HO.out⟩
theorem wrap_c (x : Int) (w : World) : Calls Try.prog 22 #[.int .i64 x] w fun e w' => (∃ y : Int, e = .returned (.int .i64 y)) ∧ w = w' :=
  (sWrap x w).mono fun e w' h => ⟨⟨_, h.1⟩, h.2⟩
set_option maxRecDepth 100000 in
set_option maxHeartbeats 8000000 in
theorem ins_g (g : Nat) (A : Option Addr) (n c : Nat) (bs : List Int) (w : World) (hc : Cur w g A n c bs) :
    Calls Try.prog 17 #[.pointer (some ⟨g, 0, none⟩)] w (OneIns g A n c bs w) := by
  have hgl := cur_lt hc
  have HC := hide (cur_alloc hc (.cells #[.int .i64 0, .int .i64 0, .int .i64 0] 27))
  have HG := hide (gr_alloc (World.grownBy.refl w (some g)) (.cells #[.int .i64 0, .int .i64 0, .int .i64 0] 27))
  clear hc
  go_enter Try.func17, Try.ntmps17
  go_wp2_with fail
  refine (known_c _).mono ?_
  rintro e w1 ⟨K, kc, rfl, ⟨L, hL, ho⟩, hb⟩
  have HL := hide hL
  have HO := hide ho
  have HC1 := hide (cur_bel HC.out hb)
  have HG1 := hide (gr_bel HG.out hb)
  have HB1 := hide hb
  clear hL ho hb HC HG
  go_wp2_with fail
  refine (below_g g A n c bs _ _ HC1.out (World.grownBy.refl _ _) _ (by omega)).mono ?_
  rintro e w2 ⟨j, rfl, ⟨p2, q2⟩, hc2, hg2⟩
  obtain ⟨j, rfl⟩ : ∃ k : Nat, j = k := ⟨j.toNat, by omega⟩
  have HO2 := hide (HO.out.kept hg2 (own_ne HO.out (by simp; omega)))
  have HC2 := hide hc2
  have HG2 := hide (grown_trans HG1.out hg2)
  have HR2 := hide (Blk.grown (Blk.bel (Blk.new w #[.int .i64 0, .int .i64 0, .int .i64 0] 27) HB1.out) hg2 (by simp; omega))
  clear hc2 hg2 HC1 HG1 HO HB1
  obtain ⟨b, rfl, _, _⟩ := HO2.out.form (by omega)
  have hjl : j < L.length := by have := HL.out; omega
  obtain ⟨op, hop⟩ : ∃ op, L[j]'hjl = op := ⟨_, rfl⟩
  have hcell : w2.cell? ⟨b, j, none⟩ = some (.int .i64 op) := by
    have h := World.ownsRow.cellAt HO2.out j (by omega)
    rw [in64_get hjl, hop] at h
    exact h
  clear hop hjl HL
  have hj0 : (0 : Int) ≤ j := by omega
  have hj1 : (j : Int) < 52 := by omega
  go_wp2_with fail
  have HK3 := hide (Blk.new w2 #[.int .i64 op, .int .i64 0, .int .i64 0] 27)
  have HR3 := hide (HR2.out.alloc (.cells #[.int .i64 op, .int .i64 0, .int .i64 0] 27))
  have HC3 := hide (cur_alloc HC2.out (.cells #[.int .i64 op, .int .i64 0, .int .i64 0] 27))
  have HG3 := hide (gr_alloc HG2.out (.cells #[.int .i64 op, .int .i64 0, .int .i64 0] 27))
  have hne : w.heap.size < w2.heap.size := HR2.out.lt
  clear HR2 HC2 HG2 HO2 hcell
  generalize w2.alloc (.cells #[.int .i64 op, .int .i64 0, .int .i64 0] 27) = W3 at HK3 HR3 HC3 HG3 ⊢
  have hkb := kind_bd op
  have HSK := hide (skind_c op W3)
  obtain ⟨k, hk⟩ : ∃ k, kind op = k := ⟨_, rfl⟩
  rw [hk] at HSK hkb
  clear hk
  refine HSK.out.mono ?_
  rintro e w' ⟨rfl, rfl⟩
  obtain ⟨r, hr⟩ : ∃ r, w2.heap.size = r := ⟨_, rfl⟩
  rw [hr] at HK3 hne ⊢
  clear hr
  rcases (by omega : k = 1 ∨ k = 2 ∨ k = 3 ∨ k = 4 ∨ k = 0) with rfl | rfl | rfl | rfl | rfl
  · skip
    go_wp2_with fail
    refine (below_g g A n c bs _ _ HC3.out (World.grownBy.refl _ _) _ (by omega)).mono ?_
    rintro e w4 ⟨x, rfl, ⟨p4, q4⟩, hc, hg⟩
    have HCw4 := hide hc
    have HGw4 := hide (grown_trans HG3.out hg)
    have HKw4 := hide (HK3.out.grown hg (by simp; omega))
    have HRw4 := hide (HR3.out.grown hg (by simp; omega))
    clear hc hg
    have k0 : w4.cell? ⟨r, 0, none⟩ = _ := HKw4.out.cell 0
    have z0 : w4.cell? ⟨w.heap.size, 0, none⟩ = _ := HRw4.out.cell 0
    have k1 : w4.cell? ⟨r, 1, none⟩ = _ := HKw4.out.cell 1
    have z1 : w4.cell? ⟨w.heap.size, 1, none⟩ = _ := HRw4.out.cell 1
    have k2 : w4.cell? ⟨r, 2, none⟩ = _ := HKw4.out.cell 2
    have z2 : w4.cell? ⟨w.heap.size, 2, none⟩ = _ := HRw4.out.cell 2
    have kf : ∀ q, w4.frozen? ⟨r, q, none⟩ = false := fun q => HKw4.out.frozen q
    have zf : ∀ q, w4.frozen? ⟨w.heap.size, q, none⟩ = false := fun q => HRw4.out.frozen q
    simp only [List.getElem?_toArray, List.getElem?_cons_zero, List.getElem?_cons_succ] at k0 k1 k2 z0 z1 z2
    go_wp2_with fail
    refine bodyPost_ret (v := .agg #[.int .i64 op, .int .i64 x, .int .i64 0]) (by simp [results, Try.results17, go_sem, z0, z1, z2]) rfl ⟨op, x, 0, rfl, ?_⟩
    repeat (first | exact ⟨HCw4.out, HGw4.out⟩ | refine cg_set ?_ (by omega) hgl)
  · skip
    go_wp2_with fail
    refine (below_g g A n c bs _ _ HC3.out (World.grownBy.refl _ _) _ (by omega)).mono ?_
    rintro e w4 ⟨x, rfl, ⟨p4, q4⟩, hc, hg⟩
    have HCw4 := hide hc
    have HGw4 := hide (grown_trans HG3.out hg)
    have HKw4 := hide (HK3.out.grown hg (by simp; omega))
    have HRw4 := hide (HR3.out.grown hg (by simp; omega))
    clear hc hg
    have k0 : w4.cell? ⟨r, 0, none⟩ = _ := HKw4.out.cell 0
    have z0 : w4.cell? ⟨w.heap.size, 0, none⟩ = _ := HRw4.out.cell 0
    have k1 : w4.cell? ⟨r, 1, none⟩ = _ := HKw4.out.cell 1
    have z1 : w4.cell? ⟨w.heap.size, 1, none⟩ = _ := HRw4.out.cell 1
    have k2 : w4.cell? ⟨r, 2, none⟩ = _ := HKw4.out.cell 2
    have z2 : w4.cell? ⟨w.heap.size, 2, none⟩ = _ := HRw4.out.cell 2
    have kf : ∀ q, w4.frozen? ⟨r, q, none⟩ = false := fun q => HKw4.out.frozen q
    have zf : ∀ q, w4.frozen? ⟨w.heap.size, q, none⟩ = false := fun q => HRw4.out.frozen q
    simp only [List.getElem?_toArray, List.getElem?_cons_zero, List.getElem?_cons_succ] at k0 k1 k2 z0 z1 z2
    go_wp2_with fail
    refine bodyPost_ret (v := .agg #[.int .i64 op, .int .i64 x, .int .i64 0]) (by simp [results, Try.results17, go_sem, z0, z1, z2]) rfl ⟨op, x, 0, rfl, ?_⟩
    repeat (first | exact ⟨HCw4.out, HGw4.out⟩ | refine cg_set ?_ (by omega) hgl)
  · skip
    go_wp2_with fail
    refine (below_g g A n c bs _ _ HC3.out (World.grownBy.refl _ _) _ (by omega)).mono ?_
    rintro e w4 ⟨x, rfl, ⟨p4, q4⟩, hc, hg⟩
    have HCw4 := hide hc
    have HGw4 := hide (grown_trans HG3.out hg)
    have HKw4 := hide (HK3.out.grown hg (by simp; omega))
    have HRw4 := hide (HR3.out.grown hg (by simp; omega))
    clear hc hg
    have k0 : w4.cell? ⟨r, 0, none⟩ = _ := HKw4.out.cell 0
    have z0 : w4.cell? ⟨w.heap.size, 0, none⟩ = _ := HRw4.out.cell 0
    have k1 : w4.cell? ⟨r, 1, none⟩ = _ := HKw4.out.cell 1
    have z1 : w4.cell? ⟨w.heap.size, 1, none⟩ = _ := HRw4.out.cell 1
    have k2 : w4.cell? ⟨r, 2, none⟩ = _ := HKw4.out.cell 2
    have z2 : w4.cell? ⟨w.heap.size, 2, none⟩ = _ := HRw4.out.cell 2
    have kf : ∀ q, w4.frozen? ⟨r, q, none⟩ = false := fun q => HKw4.out.frozen q
    have zf : ∀ q, w4.frozen? ⟨w.heap.size, q, none⟩ = false := fun q => HRw4.out.frozen q
    simp only [List.getElem?_toArray, List.getElem?_cons_zero, List.getElem?_cons_succ] at k0 k1 k2 z0 z1 z2
    have CG5 := cg_set (b := r) (j := 1) (u := .int .i64 x) ⟨HCw4.out, HGw4.out⟩ (by omega) hgl
    have HC5 := hide CG5.1
    have HG5 := hide CG5.2
    have HK5 := hide (HKw4.out.set 1 (.int .i64 x))
    have HR5 := hide (HRw4.out.other (b' := r) (j := 1) (v := .int .i64 x) (by omega))
    clear CG5
    go_wp2_with fail
    refine (below_g g A n c bs _ _ HC5.out (World.grownBy.refl _ _) _ (by omega)).mono ?_
    rintro e w6 ⟨y, rfl, ⟨p6, q6⟩, hc, hg⟩
    have HCw6 := hide hc
    have HGw6 := hide (grown_trans HG5.out hg)
    have HKw6 := hide (HK5.out.grown hg (by simp; omega))
    have HRw6 := hide (HR5.out.grown hg (by simp; omega))
    clear hc hg
    clear k0 k1 k2 z0 z1 z2 kf zf
    have k0 : w6.cell? ⟨r, 0, none⟩ = _ := HKw6.out.cell 0
    have z0 : w6.cell? ⟨w.heap.size, 0, none⟩ = _ := HRw6.out.cell 0
    have k1 : w6.cell? ⟨r, 1, none⟩ = _ := HKw6.out.cell 1
    have z1 : w6.cell? ⟨w.heap.size, 1, none⟩ = _ := HRw6.out.cell 1
    have k2 : w6.cell? ⟨r, 2, none⟩ = _ := HKw6.out.cell 2
    have z2 : w6.cell? ⟨w.heap.size, 2, none⟩ = _ := HRw6.out.cell 2
    have kf : ∀ q, w6.frozen? ⟨r, q, none⟩ = false := fun q => HKw6.out.frozen q
    have zf : ∀ q, w6.frozen? ⟨w.heap.size, q, none⟩ = false := fun q => HRw6.out.frozen q
    simp at k0 k1 k2 z0 z1 z2
    go_wp2_with fail
    refine bodyPost_ret (v := .agg #[.int .i64 op, .int .i64 x, .int .i64 y]) (by simp [results, Try.results17, go_sem, z0, z1, z2]) rfl ⟨op, x, y, rfl, ?_⟩
    repeat (first | exact ⟨HCw6.out, HGw6.out⟩ | refine cg_set ?_ (by omega) hgl)
  · skip
    go_wp2_with fail
    refine (raw_g g A n c bs _ _ HC3.out (World.grownBy.refl _ _)).mono ?_
    rintro e w4 ⟨x0, rfl, _, hc, hg⟩
    have HCw4 := hide hc
    have HGw4 := hide (grown_trans HG3.out hg)
    have HKw4 := hide (HK3.out.grown hg (by simp; omega))
    have HRw4 := hide (HR3.out.grown hg (by simp; omega))
    clear hc hg
    have k0 : w4.cell? ⟨r, 0, none⟩ = _ := HKw4.out.cell 0
    have z0 : w4.cell? ⟨w.heap.size, 0, none⟩ = _ := HRw4.out.cell 0
    have k1 : w4.cell? ⟨r, 1, none⟩ = _ := HKw4.out.cell 1
    have z1 : w4.cell? ⟨w.heap.size, 1, none⟩ = _ := HRw4.out.cell 1
    have k2 : w4.cell? ⟨r, 2, none⟩ = _ := HKw4.out.cell 2
    have z2 : w4.cell? ⟨w.heap.size, 2, none⟩ = _ := HRw4.out.cell 2
    have kf : ∀ q, w4.frozen? ⟨r, q, none⟩ = false := fun q => HKw4.out.frozen q
    have zf : ∀ q, w4.frozen? ⟨w.heap.size, q, none⟩ = false := fun q => HRw4.out.frozen q
    simp only [List.getElem?_toArray, List.getElem?_cons_zero, List.getElem?_cons_succ] at k0 k1 k2 z0 z1 z2
    go_wp2_with fail
    refine (wrap_c _ _).mono ?_
    rintro e w5 ⟨⟨x, rfl⟩, rfl⟩
    go_wp2_with fail
    refine bodyPost_ret (v := .agg #[.int .i64 op, .int .i64 x, .int .i64 0]) (by simp [results, Try.results17, go_sem, z0, z1, z2]) rfl ⟨op, x, 0, rfl, ?_⟩
    repeat (first | exact ⟨HCw4.out, HGw4.out⟩ | refine cg_set ?_ (by omega) hgl)
  · skip
    have k0 : W3.cell? ⟨r, 0, none⟩ = _ := HK3.out.cell 0
    have z0 : W3.cell? ⟨w.heap.size, 0, none⟩ = _ := HR3.out.cell 0
    have k1 : W3.cell? ⟨r, 1, none⟩ = _ := HK3.out.cell 1
    have z1 : W3.cell? ⟨w.heap.size, 1, none⟩ = _ := HR3.out.cell 1
    have k2 : W3.cell? ⟨r, 2, none⟩ = _ := HK3.out.cell 2
    have z2 : W3.cell? ⟨w.heap.size, 2, none⟩ = _ := HR3.out.cell 2
    have kf : ∀ q, W3.frozen? ⟨r, q, none⟩ = false := fun q => HK3.out.frozen q
    have zf : ∀ q, W3.frozen? ⟨w.heap.size, q, none⟩ = false := fun q => HR3.out.frozen q
    simp only [List.getElem?_toArray, List.getElem?_cons_zero, List.getElem?_cons_succ] at k0 k1 k2 z0 z1 z2
    go_wp2_with fail
    refine bodyPost_ret (v := .agg #[.int .i64 op, .int .i64 0, .int .i64 0]) (by simp [results, Try.results17, go_sem, z0, z1, z2]) rfl ⟨op, 0, 0, rfl, ?_⟩
    repeat (first | exact ⟨HC3.out, HG3.out⟩ | refine cg_set ?_ (by omega) hgl)
end Go.Proofs.Ytbedkcedooemdaa.Draw
