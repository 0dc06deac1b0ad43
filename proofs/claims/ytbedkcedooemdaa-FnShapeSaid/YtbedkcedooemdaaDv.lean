/- Bodies, drawn: of a right shape, or nearly so. -/
import Derived.Test.YtbedkcedooemdaaDu
namespace Go.Proofs.Ytbedkcedooemdaa.Draw
open Go.RowKit Go.Proofs.Ytbedkcedooemdaa.Num Go.Proofs.Ytbedkcedooemdaa.NumC Go.Proofs.Ytbedkcedooemdaa.Mem Go.Proofs.Ytbedkcedooemdaa.Shape Go.Proofs.Ytbedkcedooemdaa.Body Go.Proofs.Ytbedkcedooemdaa.Ops
set_option linter.unusedVariables false
theorem draw_g (g : Nat) (A : Option Addr) (n c : Nat) (bs : List Int) (w : World) (hc : Cur w g A n c bs) :
    Calls Try.prog 14 #[.pointer (some ⟨g, 0, none⟩), .int .i64 0] w (BodyG 7020 g A n c bs w) := by
  have d3 : ∀ w, Cur w g A n c bs → Calls Try.prog 14 #[.pointer (some ⟨g, 0, none⟩), .int .i64 3] w (BodyG 12 g A n c bs w) :=
    fun w hc => draw_step g A n c bs 3 0 (by omega) (by omega) (by omega) (fun h => absurd h (by omega)) w hc
  have d2 : ∀ w, Cur w g A n c bs → Calls Try.prog 14 #[.pointer (some ⟨g, 0, none⟩), .int .i64 2] w (BodyG 108 g A n c bs w) :=
    fun w hc => draw_step g A n c bs 2 12 (by omega) (by omega) (by omega) (fun _ w hc => d3 w hc) w hc
  have d1 : ∀ w, Cur w g A n c bs → Calls Try.prog 14 #[.pointer (some ⟨g, 0, none⟩), .int .i64 1] w (BodyG 876 g A n c bs w) :=
    fun w hc => draw_step g A n c bs 1 108 (by omega) (by omega) (by omega) (fun _ w hc => d2 w hc) w hc
  exact draw_step g A n c bs 0 876 (by omega) (by omega) (by omega) (fun _ w hc => d1 w hc) w hc
set_option maxRecDepth 100000 in
set_option maxHeartbeats 8000000 in
theorem anyins_g (g : Nat) (A : Option Addr) (n c : Nat) (bs : List Int) (w : World) (hc : Cur w g A n c bs) :
    Calls Try.prog 16 #[.pointer (some ⟨g, 0, none⟩)] w (OneIns g A n c bs w) := by
  have hgl := cur_lt hc
  have HC := hide (cur_alloc hc (.cells #[.int .i64 0, .int .i64 0, .int .i64 0] 27))
  have HG := hide (gr_alloc (World.grownBy.refl w (some g)) (.cells #[.int .i64 0, .int .i64 0, .int .i64 0] 27))
  clear hc
  go_enter Try.func16, Try.ntmps16
  go_wp2_with fail
  refine (ins_g g A n c bs _ HC.out).mono ?_
  rintro e w1 ⟨op, a, b, rfl, hc1, hg1⟩
  have HC1 := hide (cur_alloc hc1 (.cells #[.int .i64 op, .int .i64 a, .int .i64 b] 27))
  have HG1 := hide (gr_alloc (grown_trans HG.out hg1) (.cells #[.int .i64 op, .int .i64 a, .int .i64 b] 27))
  have HR1 := hide (((Blk.new w #[.int .i64 0, .int .i64 0, .int .i64 0] 27).grown hg1 (by simp; omega)).alloc (.cells #[.int .i64 op, .int .i64 a, .int .i64 b] 27))
  have HK1 := hide (Blk.new w1 #[.int .i64 op, .int .i64 a, .int .i64 b] 27)
  have hne : w.heap.size < w1.heap.size := by have := hg1.size; simp at this; omega
  clear hc1 hg1 HC HG
  go_wp2_with fail
  generalize w1.alloc (.cells #[.int .i64 op, .int .i64 a, .int .i64 b] 27) = W1 at HC1 HG1 HR1 HK1 ⊢
  obtain ⟨r, hr⟩ : ∃ r, w1.heap.size = r := ⟨_, rfl⟩
  rw [hr] at HK1 hne ⊢
  clear hr
  refine (below_g g A n c bs _ _ HC1.out (World.grownBy.refl _ _) _ (by omega)).mono ?_
  rintro e w2 ⟨k, rfl, ⟨p2, q2⟩, hc2, hg2⟩
  have HC2 := hide hc2
  have HG2 := hide (grown_trans HG1.out hg2)
  have HR2 := hide (HR1.out.grown hg2 (by simp; omega))
  have HK2 := hide (HK1.out.grown hg2 (by simp; omega))
  clear hc2 hg2 HC1 HG1 HR1 HK1
  rcases (by omega : k = 0 ∨ k = 1 ∨ k = 2 ∨ 3 ≤ k) with rfl | rfl | rfl | h3
  · skip
    go_wp2_with fail
    refine (raw_g g A n c bs _ _ HC2.out (World.grownBy.refl _ _)).mono ?_
    rintro e w4 ⟨x, rfl, _, hc, hg⟩
    have HC4 := hide hc
    have HG4 := hide (grown_trans HG2.out hg)
    have HK4 := hide (HK2.out.grown hg (by simp; omega))
    have HR4 := hide (HR2.out.grown hg (by simp; omega))
    clear hc hg
    have k0 : w4.cell? ⟨r, 0, none⟩ = _ := HK4.out.cell 0
    have z0 : w4.cell? ⟨w.heap.size, 0, none⟩ = _ := HR4.out.cell 0
    have k1 : w4.cell? ⟨r, 1, none⟩ = _ := HK4.out.cell 1
    have z1 : w4.cell? ⟨w.heap.size, 1, none⟩ = _ := HR4.out.cell 1
    have k2 : w4.cell? ⟨r, 2, none⟩ = _ := HK4.out.cell 2
    have z2 : w4.cell? ⟨w.heap.size, 2, none⟩ = _ := HR4.out.cell 2
    have kf : ∀ q, w4.frozen? ⟨r, q, none⟩ = false := fun q => HK4.out.frozen q
    have zf : ∀ q, w4.frozen? ⟨w.heap.size, q, none⟩ = false := fun q => HR4.out.frozen q
    simp only [List.getElem?_toArray, List.getElem?_cons_zero, List.getElem?_cons_succ] at k0 k1 k2 z0 z1 z2
    go_wp2_with fail
    refine bodyPost_ret (v := .agg #[.int .i64 x, .int .i64 a, .int .i64 b]) (by simp [results, Try.results16, go_sem, z0, z1, z2]) rfl ⟨x, a, b, rfl, ?_⟩
    repeat (first | exact ⟨HC4.out, HG4.out⟩ | refine cg_set ?_ (by omega) hgl)
  · skip
    go_wp2_with fail
    refine (raw_g g A n c bs _ _ HC2.out (World.grownBy.refl _ _)).mono ?_
    rintro e w4 ⟨x, rfl, _, hc, hg⟩
    have HC4 := hide hc
    have HG4 := hide (grown_trans HG2.out hg)
    have HK4 := hide (HK2.out.grown hg (by simp; omega))
    have HR4 := hide (HR2.out.grown hg (by simp; omega))
    clear hc hg
    have k0 : w4.cell? ⟨r, 0, none⟩ = _ := HK4.out.cell 0
    have z0 : w4.cell? ⟨w.heap.size, 0, none⟩ = _ := HR4.out.cell 0
    have k1 : w4.cell? ⟨r, 1, none⟩ = _ := HK4.out.cell 1
    have z1 : w4.cell? ⟨w.heap.size, 1, none⟩ = _ := HR4.out.cell 1
    have k2 : w4.cell? ⟨r, 2, none⟩ = _ := HK4.out.cell 2
    have z2 : w4.cell? ⟨w.heap.size, 2, none⟩ = _ := HR4.out.cell 2
    have kf : ∀ q, w4.frozen? ⟨r, q, none⟩ = false := fun q => HK4.out.frozen q
    have zf : ∀ q, w4.frozen? ⟨w.heap.size, q, none⟩ = false := fun q => HR4.out.frozen q
    simp only [List.getElem?_toArray, List.getElem?_cons_zero, List.getElem?_cons_succ] at k0 k1 k2 z0 z1 z2
    go_wp2_with fail
    refine bodyPost_ret (v := .agg #[.int .i64 op, .int .i64 x, .int .i64 b]) (by simp [results, Try.results16, go_sem, z0, z1, z2]) rfl ⟨op, x, b, rfl, ?_⟩
    repeat (first | exact ⟨HC4.out, HG4.out⟩ | refine cg_set ?_ (by omega) hgl)
  · skip
    go_wp2_with fail
    refine (below_g g A n c bs _ _ HC2.out (World.grownBy.refl _ _) _ (by omega)).mono ?_
    rintro e w4 ⟨x, rfl, _, hc, hg⟩
    have HC4 := hide hc
    have HG4 := hide (grown_trans HG2.out hg)
    have HK4 := hide (HK2.out.grown hg (by simp; omega))
    have HR4 := hide (HR2.out.grown hg (by simp; omega))
    clear hc hg
    have k0 : w4.cell? ⟨r, 0, none⟩ = _ := HK4.out.cell 0
    have z0 : w4.cell? ⟨w.heap.size, 0, none⟩ = _ := HR4.out.cell 0
    have k1 : w4.cell? ⟨r, 1, none⟩ = _ := HK4.out.cell 1
    have z1 : w4.cell? ⟨w.heap.size, 1, none⟩ = _ := HR4.out.cell 1
    have k2 : w4.cell? ⟨r, 2, none⟩ = _ := HK4.out.cell 2
    have z2 : w4.cell? ⟨w.heap.size, 2, none⟩ = _ := HR4.out.cell 2
    have kf : ∀ q, w4.frozen? ⟨r, q, none⟩ = false := fun q => HK4.out.frozen q
    have zf : ∀ q, w4.frozen? ⟨w.heap.size, q, none⟩ = false := fun q => HR4.out.frozen q
    simp only [List.getElem?_toArray, List.getElem?_cons_zero, List.getElem?_cons_succ] at k0 k1 k2 z0 z1 z2
    go_wp2_with fail
    refine bodyPost_ret (v := .agg #[.int .i64 op, .int .i64 a, .int .i64 x]) (by simp [results, Try.results16, go_sem, z0, z1, z2]) rfl ⟨op, a, x, rfl, ?_⟩
    repeat (first | exact ⟨HC4.out, HG4.out⟩ | refine cg_set ?_ (by omega) hgl)
  · have b0 : (k == 0) = false := by simp; omega
    have b1 : (k == 1) = false := by simp; omega
    have b2 : (k == 2) = false := by simp; omega
    have k0 : w2.cell? ⟨r, 0, none⟩ = _ := HK2.out.cell 0
    have z0 : w2.cell? ⟨w.heap.size, 0, none⟩ = _ := HR2.out.cell 0
    have k1 : w2.cell? ⟨r, 1, none⟩ = _ := HK2.out.cell 1
    have z1 : w2.cell? ⟨w.heap.size, 1, none⟩ = _ := HR2.out.cell 1
    have k2 : w2.cell? ⟨r, 2, none⟩ = _ := HK2.out.cell 2
    have z2 : w2.cell? ⟨w.heap.size, 2, none⟩ = _ := HR2.out.cell 2
    have kf : ∀ q, w2.frozen? ⟨r, q, none⟩ = false := fun q => HK2.out.frozen q
    have zf : ∀ q, w2.frozen? ⟨w.heap.size, q, none⟩ = false := fun q => HR2.out.frozen q
    simp only [List.getElem?_toArray, List.getElem?_cons_zero, List.getElem?_cons_succ] at k0 k1 k2 z0 z1 z2
    go_wp2_with fail
    refine bodyPost_ret (v := .agg #[.int .i64 op, .int .i64 a, .int .i64 b]) (by simp [results, Try.results16, go_sem, z0, z1, z2]) rfl ⟨op, a, b, rfl, ?_⟩
    repeat (first | exact ⟨HC2.out, HG2.out⟩ | refine cg_set ?_ (by omega) hgl)
def AnyB (g : Nat) (w : World) (e : Ending) (w' : World) : Prop := ∃ (B : Option Addr) (m d : Nat) (l : List Ins3), e = .returned (.slice B m d) ∧ m ≤ 8000 ∧ Rd w' w'.heap.size 3 B m (insC l) ∧ w.grownBy w' (some g)
/-- a body, drawn: it can be read -/
def SomeBody (w : World) (e : Ending) (w' : World) : Prop :=
  ∃ (B : Option Addr) (m d : Nat) (l : List Ins3), e = .returned (.slice B m d) ∧ m ≤ 8000 ∧ Rd w' w'.heap.size 3 B m (insC l) ∧ Below w.heap.size w w'
theorem rd_tail {w : World} {b off n : Nat} {x : Ins3} {l : List Ins3} (h : Rd w w.heap.size 3 (some ⟨b, off, none⟩) (n + 1) (insC (x :: l))) : Rd w w.heap.size 3 (some ⟨b, off + 3, none⟩) n (insC l) := by
  have h1 := h.1
  have e : insC (x :: l) = [.int .i64 x.1, .int .i64 x.2.1, .int .i64 x.2.2] ++ insC l := rfl
  rw [e] at h1
  simp only [List.length_append, List.length_cons, List.length_nil] at h1
  refine ⟨by omega, fun _ => ?_⟩
  obtain ⟨b', off', he, hb, hc⟩ := h.2 (by omega)
  simp only [Option.some.injEq, Addr.mk.injEq] at he
  obtain ⟨rfl, rfl, _⟩ := he
  refine ⟨b, off + 3, rfl, hb, fun j u hu => ?_⟩
  have := hc (3 + j) u (by rw [e, List.getElem?_append_right (by simp)]; simpa using hu)
  rwa [← Nat.add_assoc] at this
set_option maxRecDepth 100000 in
set_option maxHeartbeats 8000000 in
theorem anybody_g (g : Nat) (A : Option Addr) (n c : Nat) (bs : List Int) (w : World) (hc : Cur w g A n c bs) :
    Calls Try.prog 10 #[.pointer (some ⟨g, 0, none⟩)] w (AnyB g w) := by
  have hgl := cur_lt hc
  have HC := hide hc
  clear hc
  go_enter Try.func10, Try.ntmps10
  go_wp2_with fail
  refine (draw_g g A n c bs _ HC.out).mono ?_
  rintro e w1 ⟨B, d, l, rfl, hl, ho, hc1, hg1⟩
  have HS1 := hide (show ST w.heap.size 7020 g A n c bs w B d l w1 from ⟨hl, ho, hc1, hg1, hg1.size, hgl, Nat.le_refl _⟩)
  clear hl ho hc1 hg1 HC
  have hlb : (l.length : Int) ≤ 7020 := by have := HS1.out.le; omega
  go_wp2_with fail
  refine (below_g g A n c bs _ _ HS1.out.cur (World.grownBy.refl _ _) _ (by omega)).mono ?_
  rintro e w2 ⟨k, rfl, ⟨p2, q2⟩, hc2, hg2⟩
  have HS2 := hide (HS1.out.draw hc2 hg2)
  clear hc2 hg2 HS1
  rcases (by omega : k = 0 ∨ k = 1 ∨ 2 ≤ k) with rfl | rfl | h2
  · go_wp2_with fail
    refine (anyins_g g A n c bs _ HS2.out.cur).mono ?_
    rintro e w3 ⟨op, a, b, rfl, hc3, hg3⟩
    have HS3 := hide (HS2.out.draw hc3 hg3)
    clear hc3 hg3 HS2
    go_wp2_with (at_builtin; refine app1 rfl _ _ rfl rfl rfl E3 HS3.out.own rfl (one3d _ _ _) (by omega) HS3.out.bs ?_; intro B8 d8 w8 ho8 hg8 hl8)
    have HS8 := hide (HS3.out.app (m := [(op, a, b)]) (lim' := 7021) (by have := HS3.out.le; simp; omega) rfl (by rw [← ins_c1]; exact ho8) hg8)
    have HO8 := hide (show Ow w8 w.heap.size 27 3 B8 (l.length + 1) d8 (insC (l ++ [(op, a, b)])) by rw [insC_app, ← ins_c1]; exact ho8)
    clear ho8 hg8 hl8 HS3
    go_ret
    exact ⟨B8, _, d8, _, rfl, by omega, HO8.out.rd, HS8.out.gr⟩
  · rcases l with _ | ⟨x, l⟩
    · go_wp2_with fail
      go_ret
      exact ⟨B, _, d, _, rfl, by simp, HS2.out.own.rd, HS2.out.gr⟩
    · obtain ⟨b, rfl, _, _⟩ := HS2.out.own.form (by simp)
      have HT := hide (rd_tail (show Rd w2 w2.heap.size 3 (some ⟨b, 0, none⟩) (l.length + 1) (insC (x :: l)) from HS2.out.own.rd))
      have hpos : (0 : Int) < ((x :: l).length : Int) := by simp
      have hcap : l.length + 1 ≤ d := by
        rcases HS2.out.own.2 with ⟨hv, h0⟩ | ⟨g', cap, cur, hv, _, _, hc, _⟩
        · simp at h0
        · injection hv with _ _ h3
          simp at hc
          omega
      by_cases hd : d = 1
      · subst hd
        obtain rfl : l = [] := List.length_eq_zero_iff.1 (by omega)
        go_wp2_with fail
        go_ret
        exact ⟨_, 0, _, [], rfl, by omega, ⟨by simp [insC], fun h => absurd h (by omega)⟩, HS2.out.gr⟩
      · have hd2 : (2 : Int) ≤ d := by omega
        have hd3 : (l.length : Int) + 1 ≤ d := by omega
        clear hcap
        go_wp2_with fail
        go_ret
        exact ⟨_, l.length, _, l, rfl, by have := HS2.out.le; simp at this; omega, HT.out, HS2.out.gr⟩
  · have b0 : (k == 0) = false := by simp; omega
    have b1 : (k == 1) = false := by simp; omega
    go_wp2_with fail
    go_ret
    exact ⟨B, _, d, _, rfl, by omega, HS2.out.own.rd, HS2.out.gr⟩
end Go.Proofs.Ytbedkcedooemdaa.Draw
