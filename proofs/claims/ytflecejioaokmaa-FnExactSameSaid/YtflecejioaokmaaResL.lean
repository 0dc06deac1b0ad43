/- The law on Same, walked: results of runs are compared alike. -/
import Derived.Test.YtflecejioaokmaaRes
import Derived.Deep.RegionHeld
namespace Go.Proofs.Ytflecejioaokmaa
open Go.RowKit Go.Deep Go.Proofs.Ytflecejioaokmaa.Num Go.Proofs.Ytflecejioaokmaa.Mem
set_option linter.unusedVariables false
theorem Mem.Rd.up_alloc {w : World} {size n : Nat} {A : Option Addr} {xs : List Value} (h : Rd w w.heap.size size A n xs) (o : Obj) : Rd (w.alloc o) (w.alloc o).heap.size size A n xs :=
  (h.alloc (Nat.le_refl _) o).up (by simp)
theorem six_new (w : World) (a b c d e f : Value) (t : TypeId) : ∀ W, Below (w.alloc (.cells #[a, b, c, d, e, f] t)).heap.size (w.alloc (.cells #[a, b, c, d, e, f] t)) W →
    W.cell? ⟨w.heap.size, 0, none⟩ = some a ∧ W.cell? ⟨w.heap.size, 1, none⟩ = some b ∧ W.cell? ⟨w.heap.size, 2, none⟩ = some c ∧ W.cell? ⟨w.heap.size, 3, none⟩ = some d ∧ W.cell? ⟨w.heap.size, 4, none⟩ = some e ∧ W.cell? ⟨w.heap.size, 5, none⟩ = some f := by
  intro W hb
  have hk : ∀ q, W.cell? ⟨w.heap.size, q, none⟩ = (w.alloc (.cells #[a, b, c, d, e, f] t)).cell? ⟨w.heap.size, q, none⟩ := fun q => hb.cell (p := ⟨w.heap.size, q, none⟩) (by simp)
  refine ⟨(hk 0).trans ?_, (hk 1).trans ?_, (hk 2).trans ?_, (hk 3).trans ?_, (hk 4).trans ?_, (hk 5).trans ?_⟩ <;> simp
open Res in
set_option maxRecDepth 100000 in
set_option maxHeartbeats 1000000 in
theorem fnExactSame_core (a b : R) (w : World) (a1 : a.on ≤ maxLen) (a2 : a.gn ≤ maxLen) (a3 : Rd w w.heap.size 1 a.O a.on (in64 a.os)) (a4 : Rd w w.heap.size 1 a.G a.gn (in64 a.gs))
    (b1 : b.on ≤ maxLen) (b2 : b.gn ≤ maxLen) (b3 : Rd w w.heap.size 1 b.O b.on (in64 b.os)) (b4 : Rd w w.heap.size 1 b.G b.gn (in64 b.gs)) :
    Calls Try.prog 8 #[a.v, b.v] w fun en w' => en = .returned (.bool true) ∧ Below w.heap.size w w' := by
  obtain ⟨e, y, n, O, on, oc, os, s, G, gn, gc, gs⟩ := a
  obtain ⟨e', y', n', O', on', oc', os', s', G', gn', gc', gs'⟩ := b
  have M := hide (show on ≤ 9223372036854775807 ∧ gn ≤ 9223372036854775807 ∧ on' ≤ 9223372036854775807 ∧ gn' ≤ 9223372036854775807 by simp only [maxLen] at a1 a2 b1 b2; omega)
  have HO := hide a3
  have HG := hide a4
  have HO' := hide b3
  have HG' := hide b4
  clear a1 a2 a3 a4 b1 b2 b3 b4
  go_enter Try.func8, Try.ntmps8
  go_wp2_with fail
  obtain ⟨W0, hW0⟩ : ∃ W0, (w.alloc (.cells #[.int .i64 e, .int .i64 y, .int .i64 n, .slice O on oc, .int .i64 s, .slice G gn gc] 55)).alloc (.cells #[.int .i64 e', .int .i64 y', .int .i64 n', .slice O' on' oc', .int .i64 s', .slice G' gn' gc'] 55) = W0 := ⟨_, rfl⟩
  have B0 := hide (show Below w.heap.size w W0 by
    rw [← hW0]
    repeat (first | exact Below.refl _ _ | refine Below.alloc ?_ (by simp <;> omega) _))
  have p0 : W0.cell? ⟨w.heap.size, 0, none⟩ = some (.int .i64 e) := by rw [← hW0]; simp
  have q0 : W0.cell? ⟨w.heap.size + 1, 0, none⟩ = some (.int .i64 e') := by rw [← hW0]; simp
  have p1 : W0.cell? ⟨w.heap.size, 1, none⟩ = some (.int .i64 y) := by rw [← hW0]; simp
  have q1 : W0.cell? ⟨w.heap.size + 1, 1, none⟩ = some (.int .i64 y') := by rw [← hW0]; simp
  have p2 : W0.cell? ⟨w.heap.size, 2, none⟩ = some (.int .i64 n) := by rw [← hW0]; simp
  have q2 : W0.cell? ⟨w.heap.size + 1, 2, none⟩ = some (.int .i64 n') := by rw [← hW0]; simp
  have p3 : W0.cell? ⟨w.heap.size, 3, none⟩ = some (.slice O on oc) := by rw [← hW0]; simp
  have q3 : W0.cell? ⟨w.heap.size + 1, 3, none⟩ = some (.slice O' on' oc') := by rw [← hW0]; simp
  have p4 : W0.cell? ⟨w.heap.size, 4, none⟩ = some (.int .i64 s) := by rw [← hW0]; simp
  have q4 : W0.cell? ⟨w.heap.size + 1, 4, none⟩ = some (.int .i64 s') := by rw [← hW0]; simp
  have p5 : W0.cell? ⟨w.heap.size, 5, none⟩ = some (.slice G gn gc) := by rw [← hW0]; simp
  have q5 : W0.cell? ⟨w.heap.size + 1, 5, none⟩ = some (.slice G' gn' gc') := by rw [← hW0]; simp
  have z0 : w.heap.size < W0.heap.size := by rw [← hW0]; simp <;> omega
  have z1 : w.heap.size + 1 < W0.heap.size := by rw [← hW0]; simp <;> omega
  rw [hW0]
  clear hW0
  refine (szResult_c e y n O on oc s G gn gc _ _ M.out.1 M.out.2.1 (by omega) (by omega)).mono ?_
  rintro en w1 ⟨⟨x, rfl, hx, hx0⟩, hb⟩
  have D1 := hide hb
  have B1 := hide (bel_step B0.out hb B0.out.size)
  obtain ⟨hc, hf⟩ := bcell D1.out
  clear hb
  by_cases hx1 : x < 0
  · go_wp2_with fail
    go_ret
    exact ⟨rfl, B1.out⟩
  have hx2 : 0 ≤ x := by omega
  have NA := hide (hx0 hx2)
  clear hx0
  go_wp2_with fail
  clear hc hf
  refine (szResult_c e' y' n' O' on' oc' s' G' gn' gc' _ _ M.out.2.2.1 M.out.2.2.2 hx2 hx).mono ?_
  rintro en w2 ⟨⟨x', rfl, hx', hx0'⟩, hb⟩
  have D2 := hide (bel_step D1.out hb D1.out.size)
  have B2 := hide (bel_step B1.out hb B1.out.size)
  obtain ⟨hc, hf⟩ := bcell D2.out
  clear hb
  by_cases hx1' : x' < 0
  · go_wp2_with fail
    go_ret
    exact ⟨rfl, B2.out⟩
  have hx2' : 0 ≤ x' := by omega
  have NB := hide (hx0' hx2')
  have NN := hide (show on ≤ 1048576 ∧ gn ≤ 1048576 ∧ on' ≤ 1048576 ∧ gn' ≤ 1048576 by have := NA.out; have := NB.out; omega)
  clear hx0' NA NB M
  obtain ⟨R, hR⟩ : ∃ R : Bool, R = decide (e = e' ∧ y = y' ∧ n = n' ∧ os = os') := ⟨_, rfl⟩
  have HR := hide hR
  clear hR hc hf
  go_wp2_with fail
  have Dn : Below W0.heap.size W0 w2.drew := bel_drewN D2.out 1
  have HP := hide (show ∀ W, Below W0.heap.size W0 W → W.cell? ⟨w.heap.size, 0, none⟩ = some (.int .i64 e) ∧ W.cell? ⟨w.heap.size, 1, none⟩ = some (.int .i64 y) ∧ W.cell? ⟨w.heap.size, 2, none⟩ = some (.int .i64 n) ∧ W.cell? ⟨w.heap.size, 3, none⟩ = some (.slice O on oc) ∧ W.cell? ⟨w.heap.size, 4, none⟩ = some (.int .i64 s) ∧ W.cell? ⟨w.heap.size, 5, none⟩ = some (.slice G gn gc) ∧ W.cell? ⟨w.heap.size + 1, 0, none⟩ = some (.int .i64 e') ∧ W.cell? ⟨w.heap.size + 1, 1, none⟩ = some (.int .i64 y') ∧ W.cell? ⟨w.heap.size + 1, 2, none⟩ = some (.int .i64 n') ∧ W.cell? ⟨w.heap.size + 1, 3, none⟩ = some (.slice O' on' oc') ∧ W.cell? ⟨w.heap.size + 1, 4, none⟩ = some (.int .i64 s') ∧ W.cell? ⟨w.heap.size + 1, 5, none⟩ = some (.slice G' gn' gc') from fun W D => ⟨six D z0 p0, six D z0 p1, six D z0 p2, six D z0 p3, six D z0 p4, six D z0 p5, six D z1 q0, six D z1 q1, six D z1 q2, six D z1 q3, six D z1 q4, six D z1 q5⟩)
  clear p0 p1 p2 p3 p4 p5 q0 q1 q2 q3 q4 q5
  have DN := hide Dn
  clear Dn
  go_region_held (fun W => W.cell? ⟨w.heap.size, 0, none⟩ = some (.int .i64 e) ∧ W.cell? ⟨w.heap.size, 1, none⟩ = some (.int .i64 y) ∧ W.cell? ⟨w.heap.size, 2, none⟩ = some (.int .i64 n) ∧ W.cell? ⟨w.heap.size, 3, none⟩ = some (.slice O on oc) ∧ W.cell? ⟨w.heap.size, 4, none⟩ = some (.int .i64 s) ∧ W.cell? ⟨w.heap.size, 5, none⟩ = some (.slice G gn gc) ∧ W.cell? ⟨w.heap.size + 1, 0, none⟩ = some (.int .i64 e') ∧ W.cell? ⟨w.heap.size + 1, 1, none⟩ = some (.int .i64 y') ∧ W.cell? ⟨w.heap.size + 1, 2, none⟩ = some (.int .i64 n') ∧ W.cell? ⟨w.heap.size + 1, 3, none⟩ = some (.slice O' on' oc') ∧ W.cell? ⟨w.heap.size + 1, 4, none⟩ = some (.int .i64 s') ∧ W.cell? ⟨w.heap.size + 1, 5, none⟩ = some (.slice G' gn' gc')) (exact HP.out _ DN.out) (first
    | (go_at_call 43
       have hq := RX1
       refine (toResult_c e' y' n' O' on' oc' os' s' G' gn' gc' gs' _ (HO'.out.bel (B0.out.trans (DN.out.mono B0.out.size))) (HG'.out.bel (B0.out.trans (DN.out.mono B0.out.size))) NN.out.2.2.1 NN.out.2.2.2).mono ?_
       rintro en w4 ⟨X2, xc2, Y2, yc2, rfl, ho, hg, hb⟩
       replace RX1 := hide (RX1.out.bel hb)
       replace RY1 := hide (RY1.out.bel hb)
       have RX2 := hide ho.rd
       have RY2 := hide hg.rd
       replace DN := hide (bel_step DN.out hb DN.out.size)
       clear hb ho hg)
    | (go_at_call 43
       refine (toResult_c e y n O on oc os s G gn gc gs _ (HO.out.bel (B0.out.trans (DN.out.mono B0.out.size))) (HG.out.bel (B0.out.trans (DN.out.mono B0.out.size))) NN.out.1 NN.out.2.1).mono ?_
       rintro en w3 ⟨X1, xc1, Y1, yc1, rfl, ho, hg, hb⟩
       have RX1 := hide ho.rd
       have RY1 := hide hg.rd
       replace DN := hide (bel_step DN.out hb DN.out.size)
       clear hb ho hg)
    | (go_at_call 42
       refine (sSame e y n X1 X2 on xc1 on' xc2 os os' s Y1 Y2 gn yc1 gn' yc2 e' y' n' s' _ RX1.out RX2.out NN.out.1 NN.out.2.2.1 R HR.out).mono ?_
       rintro en w5 ⟨rfl, hb⟩
       replace DN := hide (bel_step DN.out hb DN.out.size)
       clear hb))
  clear RX1 RY1 RX2 RY2
  obtain ⟨p0, p1, p2, p3, p4, p5, q0, q1, q2, q3, q4, q5⟩ := HP.out _ DN.out
  go_wp2_with fail
  refine (toResult_c e y n O on oc os s G gn gc gs _ (HO.out.bel (B0.out.trans (DN.out.mono B0.out.size))) (HG.out.bel (B0.out.trans (DN.out.mono B0.out.size))) NN.out.1 NN.out.2.1).mono ?_
  rintro en w6 ⟨X3, xc3, Y3, yc3, rfl, ho, hg, hb⟩
  have RX3 := hide ho.rd
  have RY3 := hide hg.rd
  have DN6 := hide (bel_step DN.out hb DN.out.size)
  clear hb ho hg p0 p1 p2 p3 p4 p5 q0 q1 q2 q3 q4 q5
  have DN7 := hide (DN6.out.alloc DN6.out.size (.cells #[.int .i64 e, .int .i64 y, .int .i64 n, .slice X3 on xc3, .int .i64 s, .slice Y3 gn yc3] 58))
  have RX7 := hide (RX3.out.up_alloc (.cells #[.int .i64 e, .int .i64 y, .int .i64 n, .slice X3 on xc3, .int .i64 s, .slice Y3 gn yc3] 58))
  have RY7 := hide (RY3.out.up_alloc (.cells #[.int .i64 e, .int .i64 y, .int .i64 n, .slice X3 on xc3, .int .i64 s, .slice Y3 gn yc3] 58))
  have HX := hide (six_new w6 (.int .i64 e) (.int .i64 y) (.int .i64 n) (.slice X3 on xc3) (.int .i64 s) (.slice Y3 gn yc3) 58)
  obtain ⟨p0, p1, p2, p3, p4, p5, q0, q1, q2, q3, q4, q5⟩ := HP.out _ DN7.out
  go_wp2_with fail
  generalize w6.alloc (.cells #[.int .i64 e, .int .i64 y, .int .i64 n, .slice X3 on xc3, .int .i64 s, .slice Y3 gn yc3] 58) = W7 at DN7 RX7 RY7 HX p0 p1 p2 p3 p4 p5 q0 q1 q2 q3 q4 q5 ⊢
  refine (toResult_c e' y' n' O' on' oc' os' s' G' gn' gc' gs' W7 (HO'.out.bel (B0.out.trans (DN7.out.mono B0.out.size))) (HG'.out.bel (B0.out.trans (DN7.out.mono B0.out.size))) NN.out.2.2.1 NN.out.2.2.2).mono ?_
  rintro en w8 ⟨X4, xc4, Y4, yc4, rfl, ho, hg, hb⟩
  have RX8 := hide ho.rd
  have RY8 := hide hg.rd
  have DN8 := hide (bel_step DN7.out hb DN7.out.size)
  have BX8 := hide (show Below W7.heap.size W7 w8 from hb)
  clear hb ho hg p0 p1 p2 p3 p4 p5 q0 q1 q2 q3 q4 q5
  have DN9 := hide (DN8.out.alloc DN8.out.size (.cells #[.int .i64 e', .int .i64 y', .int .i64 n', .slice X4 on' xc4, .int .i64 s', .slice Y4 gn' yc4] 58))
  have BX9 := hide (BX8.out.alloc BX8.out.size (.cells #[.int .i64 e', .int .i64 y', .int .i64 n', .slice X4 on' xc4, .int .i64 s', .slice Y4 gn' yc4] 58))
  have RX9 := hide (RX8.out.up_alloc (.cells #[.int .i64 e', .int .i64 y', .int .i64 n', .slice X4 on' xc4, .int .i64 s', .slice Y4 gn' yc4] 58))
  have RY9 := hide (RY8.out.up_alloc (.cells #[.int .i64 e', .int .i64 y', .int .i64 n', .slice X4 on' xc4, .int .i64 s', .slice Y4 gn' yc4] 58))
  have HY := hide (six_new w8 (.int .i64 e') (.int .i64 y') (.int .i64 n') (.slice X4 on' xc4) (.int .i64 s') (.slice Y4 gn' yc4) 58)
  obtain ⟨p0, p1, p2, p3, p4, p5, q0, q1, q2, q3, q4, q5⟩ := HP.out _ DN9.out
  obtain ⟨x0, x1, x2, x3, x4, x5⟩ := HX.out _ BX9.out
  obtain ⟨y0, y1, y2, y3, y4, y5⟩ := HY.out _ (Below.refl _ _)
  go_wp2_with fail
  generalize w8.alloc (.cells #[.int .i64 e', .int .i64 y', .int .i64 n', .slice X4 on' xc4, .int .i64 s', .slice Y4 gn' yc4] 58) = W9 at DN9 BX9 RX9 RY9 HY p0 p1 p2 p3 p4 p5 q0 q1 q2 q3 q4 q5 x0 x1 x2 x3 x4 x5 y0 y1 y2 y3 y4 y5 ⊢
  have RX79 := hide (RX7.out.bel BX9.out)
  have RY79 := hide (RY7.out.bel BX9.out)
  refine (iSame e y n X3 X4 on xc3 on' xc4 os os' s Y3 Y4 gn yc3 gn' yc4 e' y' n' s' W9 RX79.out RX9.out NN.out.1 NN.out.2.2.1 R HR.out).mono ?_
  rintro en w10 ⟨rfl, hb⟩
  have DN10 := hide (bel_step DN9.out hb DN9.out.size)
  have BX10 := hide (bel_step BX9.out hb BX9.out.size)
  have BY10 := hide (show Below W9.heap.size W9 w10 from hb)
  clear hb p0 p1 p2 p3 p4 p5 q0 q1 q2 q3 q4 q5 x0 x1 x2 x3 x4 x5 y0 y1 y2 y3 y4 y5
  obtain ⟨p0, p1, p2, p3, p4, p5, q0, q1, q2, q3, q4, q5⟩ := HP.out _ DN10.out
  obtain ⟨x0, x1, x2, x3, x4, x5⟩ := HX.out _ BX10.out
  obtain ⟨y0, y1, y2, y3, y4, y5⟩ := HY.out _ BY10.out
  go_wp2_with fail
  clear p0 p1 p2 p3 p4 p5 q0 q1 q2 q3 q4 q5 x0 x1 x2 x3 x4 x5 y0 y1 y2 y3 y4 y5
  have DNr := hide (bel_drewN DN10.out 1)
  have BXr := hide (bel_drewN BX10.out 1)
  have BYr := hide (bel_drewN BY10.out 1)
  have HS1 := hide (show ∀ W, Below W0.heap.size W0 W → Below W7.heap.size W7 W → W.cell? ⟨w.heap.size, 0, none⟩ = some (.int .i64 e) ∧ W.cell? ⟨w.heap.size, 1, none⟩ = some (.int .i64 y) ∧ W.cell? ⟨w.heap.size, 2, none⟩ = some (.int .i64 n) ∧ W.cell? ⟨w.heap.size, 3, none⟩ = some (.slice O on oc) ∧ W.cell? ⟨w.heap.size, 4, none⟩ = some (.int .i64 s) ∧ W.cell? ⟨w.heap.size, 5, none⟩ = some (.slice G gn gc) ∧ W.cell? ⟨w6.heap.size, 0, none⟩ = some (.int .i64 e) ∧ W.cell? ⟨w6.heap.size, 1, none⟩ = some (.int .i64 y) ∧ W.cell? ⟨w6.heap.size, 2, none⟩ = some (.int .i64 n) ∧ W.cell? ⟨w6.heap.size, 3, none⟩ = some (.slice X3 on xc3) ∧ W.cell? ⟨w6.heap.size, 4, none⟩ = some (.int .i64 s) ∧ W.cell? ⟨w6.heap.size, 5, none⟩ = some (.slice Y3 gn yc3) from fun W D B => by
    obtain ⟨p0, p1, p2, p3, p4, p5, q0, q1, q2, q3, q4, q5⟩ := HP.out W D
    obtain ⟨x0, x1, x2, x3, x4, x5⟩ := HX.out W B
    exact ⟨p0, p1, p2, p3, p4, p5, x0, x1, x2, x3, x4, x5⟩)
  go_region_held (fun W => W.cell? ⟨w.heap.size, 0, none⟩ = some (.int .i64 e) ∧ W.cell? ⟨w.heap.size, 1, none⟩ = some (.int .i64 y) ∧ W.cell? ⟨w.heap.size, 2, none⟩ = some (.int .i64 n) ∧ W.cell? ⟨w.heap.size, 3, none⟩ = some (.slice O on oc) ∧ W.cell? ⟨w.heap.size, 4, none⟩ = some (.int .i64 s) ∧ W.cell? ⟨w.heap.size, 5, none⟩ = some (.slice G gn gc) ∧ W.cell? ⟨w6.heap.size, 0, none⟩ = some (.int .i64 e) ∧ W.cell? ⟨w6.heap.size, 1, none⟩ = some (.int .i64 y) ∧ W.cell? ⟨w6.heap.size, 2, none⟩ = some (.int .i64 n) ∧ W.cell? ⟨w6.heap.size, 3, none⟩ = some (.slice X3 on xc3) ∧ W.cell? ⟨w6.heap.size, 4, none⟩ = some (.int .i64 s) ∧ W.cell? ⟨w6.heap.size, 5, none⟩ = some (.slice Y3 gn yc3)) (exact HS1.out _ DNr.out BXr.out) (first
    | (go_at_call 45
       refine (eqResult_c e y n X3 X5 on xc3 xc5 os s Y3 Y5 gn yc3 yc5 gs _ (RX7.out.bel BXr.out) RX5.out (RY7.out.bel BXr.out) RY5.out NN.out.1 NN.out.2.1).mono ?_
       rintro en w12 ⟨rfl, hb⟩
       replace DNr := hide (bel_step DNr.out hb DNr.out.size)
       replace BXr := hide (bel_step BXr.out hb BXr.out.size)
       replace BYr := hide (bel_step BYr.out hb BYr.out.size)
       clear hb)
    | (go_at_call 43
       refine (toResult_c e y n O on oc os s G gn gc gs _ (HO.out.bel (B0.out.trans (DNr.out.mono B0.out.size))) (HG.out.bel (B0.out.trans (DNr.out.mono B0.out.size))) NN.out.1 NN.out.2.1).mono ?_
       rintro en w11 ⟨X5, xc5, Y5, yc5, rfl, ho, hg, hb⟩
       have RX5 := hide ho.rd
       have RY5 := hide hg.rd
       replace DNr := hide (bel_step DNr.out hb DNr.out.size)
       replace BXr := hide (bel_step BXr.out hb BXr.out.size)
       replace BYr := hide (bel_step BYr.out hb BYr.out.size)
       clear hb ho hg))
  go_wp2_with fail
  replace DNr := hide (bel_drewN DNr.out 1)
  replace BYr := hide (bel_drewN BYr.out 1)
  have HS2 := hide (show ∀ W, Below W0.heap.size W0 W → Below W9.heap.size W9 W → W.cell? ⟨w.heap.size + 1, 0, none⟩ = some (.int .i64 e') ∧ W.cell? ⟨w.heap.size + 1, 1, none⟩ = some (.int .i64 y') ∧ W.cell? ⟨w.heap.size + 1, 2, none⟩ = some (.int .i64 n') ∧ W.cell? ⟨w.heap.size + 1, 3, none⟩ = some (.slice O' on' oc') ∧ W.cell? ⟨w.heap.size + 1, 4, none⟩ = some (.int .i64 s') ∧ W.cell? ⟨w.heap.size + 1, 5, none⟩ = some (.slice G' gn' gc') ∧ W.cell? ⟨w8.heap.size, 0, none⟩ = some (.int .i64 e') ∧ W.cell? ⟨w8.heap.size, 1, none⟩ = some (.int .i64 y') ∧ W.cell? ⟨w8.heap.size, 2, none⟩ = some (.int .i64 n') ∧ W.cell? ⟨w8.heap.size, 3, none⟩ = some (.slice X4 on' xc4) ∧ W.cell? ⟨w8.heap.size, 4, none⟩ = some (.int .i64 s') ∧ W.cell? ⟨w8.heap.size, 5, none⟩ = some (.slice Y4 gn' yc4) from fun W D B => by
    obtain ⟨p0, p1, p2, p3, p4, p5, q0, q1, q2, q3, q4, q5⟩ := HP.out W D
    obtain ⟨x0, x1, x2, x3, x4, x5⟩ := HY.out W B
    exact ⟨q0, q1, q2, q3, q4, q5, x0, x1, x2, x3, x4, x5⟩)
  clear RX5 RY5 HS1 BXr
  go_region_held (fun W => W.cell? ⟨w.heap.size + 1, 0, none⟩ = some (.int .i64 e') ∧ W.cell? ⟨w.heap.size + 1, 1, none⟩ = some (.int .i64 y') ∧ W.cell? ⟨w.heap.size + 1, 2, none⟩ = some (.int .i64 n') ∧ W.cell? ⟨w.heap.size + 1, 3, none⟩ = some (.slice O' on' oc') ∧ W.cell? ⟨w.heap.size + 1, 4, none⟩ = some (.int .i64 s') ∧ W.cell? ⟨w.heap.size + 1, 5, none⟩ = some (.slice G' gn' gc') ∧ W.cell? ⟨w8.heap.size, 0, none⟩ = some (.int .i64 e') ∧ W.cell? ⟨w8.heap.size, 1, none⟩ = some (.int .i64 y') ∧ W.cell? ⟨w8.heap.size, 2, none⟩ = some (.int .i64 n') ∧ W.cell? ⟨w8.heap.size, 3, none⟩ = some (.slice X4 on' xc4) ∧ W.cell? ⟨w8.heap.size, 4, none⟩ = some (.int .i64 s') ∧ W.cell? ⟨w8.heap.size, 5, none⟩ = some (.slice Y4 gn' yc4)) (exact HS2.out _ DNr.out BYr.out) (first
    | (go_at_call 45
       refine (eqResult_c e' y' n' X4 X6 on' xc4 xc6 os' s' Y4 Y6 gn' yc4 yc6 gs' _ (RX9.out.bel BYr.out) RX6.out (RY9.out.bel BYr.out) RY6.out NN.out.2.2.1 NN.out.2.2.2).mono ?_
       rintro en w14 ⟨rfl, hb⟩
       replace DNr := hide (bel_step DNr.out hb DNr.out.size)
       replace BYr := hide (bel_step BYr.out hb BYr.out.size)
       clear hb)
    | (go_at_call 43
       refine (toResult_c e' y' n' O' on' oc' os' s' G' gn' gc' gs' _ (HO'.out.bel (B0.out.trans (DNr.out.mono B0.out.size))) (HG'.out.bel (B0.out.trans (DNr.out.mono B0.out.size))) NN.out.2.2.1 NN.out.2.2.2).mono ?_
       rintro en w13 ⟨X6, xc6, Y6, yc6, rfl, ho, hg, hb⟩
       have RX6 := hide ho.rd
       have RY6 := hide hg.rd
       replace DNr := hide (bel_step DNr.out hb DNr.out.size)
       replace BYr := hide (bel_step BYr.out hb BYr.out.size)
       clear hb ho hg))
  go_wp2_with fail
  go_ret
  exact ⟨rfl, B0.out.trans (DNr.out.mono B0.out.size)⟩
open Res in
theorem fnExactSame_walk (a0 : R) (a1 : R) (w : World) (w0 : a0.on ≤ maxLen ∧ a0.gn ≤ maxLen ∧ Rd w w.heap.size 1 a0.O a0.on (in64 a0.os) ∧ Rd w w.heap.size 1 a0.G a0.gn (in64 a0.gs)) (w1 : a1.on ≤ maxLen ∧ a1.gn ≤ maxLen ∧ Rd w w.heap.size 1 a1.O a1.on (in64 a1.os) ∧ Rd w w.heap.size 1 a1.G a1.gn (in64 a1.gs)) :
    Calls Try.prog 8 #[a0.v, a1.v] w fun e w' => e = .returned (.bool true) ∧ Below w.heap.size w w' :=
  fnExactSame_core a0 a1 w w0.1 w0.2.1 w0.2.2.1 w0.2.2.2 w1.1 w1.2.1 w1.2.2.1 w1.2.2.2
open Go.ChangeShapes Go.WideShapes in
theorem open_res {H : Type} {enc : TypeId × Value → H} {w : World} {spare : Nat → Bool} {held : Bool} {r : Reach} {b0 : Nat} {v : Value} {d : DataW H} {p : List MemPlace}
    (hv : Value.okWide Try.prog w r b0 55 v) (h : DataW.Trod enc Try.prog w 0 spare held 55 v d p) :
    ∃ a : Res.R, v = a.v ∧ a.on ≤ maxLen ∧ a.gn ≤ maxLen ∧ Rd w w.heap.size 1 a.O a.on (in64 a.os) ∧ Rd w w.heap.size 1 a.G a.gn (in64 a.gs) := Res.open_res hv h
end Go.Proofs.Ytflecejioaokmaa
