/- The laws' marks on a module: they write into the module's own lists alone. A contract each. -/
import Derived.Test.YtiinkfejdnfonaaGreatDoorModM
import Derived.Test.YtiinkfejdnfonaaGreatDoorBbC
import Derived.Test.YtiinkfejdnfonaaGreatDoorBbL
import Derived.Deep.RegionHeld
import Derived.Laws.BytesArg
import Derived.Laws.OwnMore
namespace Go.Proofs.YtiinkfejdnfonaaGreatDoor.Mo
open Go.RowKit Go.Proofs.YtiinkfejdnfonaaGreatDoor.Num Go.Proofs.YtiinkfejdnfonaaGreatDoor.Mem Go.Proofs.YtiinkfejdnfonaaGreatDoor.Shape Go.Proofs.YtiinkfejdnfonaaGreatDoor.Bb
set_option linter.unusedVariables false
/-- what lies below lo, what lies from hi on, and what is of another type than P tells, is as it was -/
structure Mt (lo hi : Nat) (P : TypeId → Prop) (w w' : World) : Prop where
  os : w'.os = w.os
  tape : w'.tape = w.tape
  output : w'.output = w.output
  size : w.heap.size ≤ w'.heap.size
  block : ∀ k, k < w.heap.size → (k < lo ∨ hi ≤ k ∨ ∃ cs t x, w.heap[k]? = some (.cells cs t x) ∧ ¬ P t) → w'.heap[k]? = w.heap[k]?
section
variable {lo hi : Nat} {P Q : TypeId → Prop} {w w' w'' : World}
theorem Mt.refl : Mt lo hi P w w := ⟨rfl, rfl, rfl, Nat.le_refl _, fun _ _ _ => rfl⟩
theorem Mt.trans (h : Mt lo hi P w w') (k : Mt lo hi P w' w'') : Mt lo hi P w w'' :=
  ⟨k.os.trans h.os, k.tape.trans h.tape, k.output.trans h.output, Nat.le_trans h.size k.size, fun b hb hr => by
    have e := h.block b hb hr
    rw [k.block b (Nat.lt_of_lt_of_le hb h.size) (by rw [e]; exact hr), e]⟩
theorem Mt.weak (h : Mt lo hi P w w') (hPQ : ∀ t, P t → Q t) : Mt lo hi Q w w' :=
  ⟨h.os, h.tape, h.output, h.size, fun b hb hr => h.block b hb (by
    rcases hr with hr | hr | ⟨cs, t, x, hc, ht⟩
    · exact .inl hr
    · exact .inr (.inl hr)
    · exact .inr (.inr ⟨cs, t, x, hc, fun hp => ht (hPQ t hp)⟩))⟩
theorem Mt.bel (h : Mt lo hi P w w') (hb : Below w'.heap.size w' w'') : Mt lo hi P w w'' :=
  ⟨hb.os.trans h.os, hb.tape.trans h.tape, hb.output.trans h.output, Nat.le_trans h.size hb.size, fun k hk hr => (hb.block k (Nat.lt_of_lt_of_le hk h.size)).trans (h.block k hk hr)⟩
theorem Mt.grown {row : Option Nat} (hg : w.grownBy w' row) (hr : ∀ g, row = some g → lo ≤ g ∧ g < hi ∧ ∃ cs t x, w.heap[g]? = some (.cells cs t x) ∧ P t) : Mt lo hi P w w' :=
  ⟨hg.os, hg.tape, hg.output, hg.size, fun b hb h => hg.block b hb (fun e => by
    obtain ⟨h1, h2, cs, t, x, hc, hp⟩ := hr b e.symm
    rcases h with h | h | ⟨cs', t', x', hc', ht'⟩
    · omega
    · omega
    · rw [hc] at hc'
      injection hc' with hc'
      injection hc' with _ e2
      exact ht' (e2 ▸ hp))⟩
theorem ow_type {W : World} {base e size n c : Nat} {A : Option Addr} {xs : List Value} (ho : Ow W base e size A n c xs) : ∀ g, blk A = some g → ∃ cs x, W.heap[g]? = some (.cells cs e x) := by
  intro g hb
  rcases ho.2 with ⟨hv, h0⟩ | ⟨g', cap, cur, hv, _, hg, _⟩
  · injection hv with h1
    rw [h1] at hb
    cases hb
  · injection hv with h1
    rw [h1] at hb
    injection hb with hb
    simp only at hb
    subst hb
    exact ⟨_, _, hg⟩
theorem Mt.row {W W' : World} {base e size n c : Nat} {A : Option Addr} {xs : List Value} (ho : Ow W base e size A n c xs) (hg : W.grownBy W' (blk A)) (hlo : lo ≤ base) (hhi : ∀ g, blk A = some g → g < hi) (hP : P e) : Mt lo hi P W W' :=
  Mt.grown hg fun g hb => by
    obtain ⟨cs, x, hc⟩ := ow_type ho g hb
    exact ⟨Nat.le_trans hlo (ho.blk_lt g hb).1, hhi g hb, cs, e, x, hc, hP⟩
theorem Mt.below {B : Nat} {w0 : World} (h : Mt lo hi P w w') (hb : Below B w0 w) (hB : B ≤ lo) (hs : B ≤ w.heap.size) : Below B w0 w' :=
  hb.trans ⟨h.os, h.tape, h.output, h.size, fun k hk => h.block k (by omega) (.inl (by omega))⟩
theorem Mt.kept {base e size n c : Nat} {A : Option Addr} {xs : List Value} (h : Mt lo hi P w w') (ho : Ow w base e size A n c xs) (hA : ¬ P e ∨ ∀ g, blk A = some g → g < lo ∨ hi ≤ g) : Ow w' base e size A n c xs := by
  refine ⟨ho.1, ?_⟩
  have hlt := ho.blk_lt
  rcases ho.2 with hn | ⟨g, cap, cur, hv, hb, hg, r⟩
  · exact .inl hn
  · refine .inr ⟨g, cap, cur, hv, hb, ?_, r⟩
    injection hv with h1
    have hbk : blk A = some g := by rw [h1]; rfl
    refine (h.block g (hlt g hbk).2 ?_).trans hg
    rcases hA with hA | hA
    · exact .inr (.inr ⟨_, _, _, hg, hA⟩)
    · exact (hA g hbk).imp_right .inl
theorem Mt.keptF {q : Nat} {e : TypeId} {l : List FV} (h : Mt lo hi P w w') (ho : OwF w q e l) (hA : ¬ P e) : OwF w' q e l := ⟨fun x hx => ⟨(ho.1 x hx).1, h.kept (ho.1 x hx).2 (.inl hA)⟩, ho.2⟩
theorem Mt.keptD {q : Nat} {e : TypeId} {l : List DV} (h : Mt lo hi P w w') (ho : OwD w q e l) (hA : ¬ P e) : OwD w' q e l := ⟨fun x hx => ⟨(ho.1 x hx).1, h.kept (ho.1 x hx).2 (.inl hA)⟩, ho.2⟩
end
theorem gr_bel2 {w0 w w' : World} {row : Option Nat} (h : w0.grownBy w row) (hb : Below w.heap.size w w') : w0.grownBy w' row :=
  ⟨hb.os.trans h.os, hb.tape.trans h.tape, hb.output.trans h.output, Nat.le_trans h.size hb.size, fun k hk hne => (hb.block k (Nat.lt_of_lt_of_le hk h.size)).trans (h.block k hk hne)⟩
theorem apart_ty {W : World} {b1 b2 e1 e2 s1 s2 n1 n2 c1 c2 : Nat} {A B : Option Addr} {xs ys : List Value} (ha : Ow W b1 e1 s1 A n1 c1 xs) (hb : Ow W b2 e2 s2 B n2 c2 ys) (he : e1 ≠ e2) : blk A = none ∨ blk A ≠ blk B := by
  rcases h : blk A with _ | g
  · exact .inl rfl
  · refine .inr fun e => ?_
    obtain ⟨cs, x, h1⟩ := ow_type ha g h
    obtain ⟨cs', x', h2⟩ := ow_type hb g e.symm
    rw [h1] at h2
    injection h2 with h2
    injection h2 with _ h2
    exact he h2
theorem mk_conv (w : World) (x : Int) :
    (convert 31 9 (.slice (some ⟨w.heap.size, 0, none⟩) 1 1)).run Tryz.prog (w.alloc (.cells #[.int .u8 x] 5)) = .ok (.string (strOfNums [x])) (w.alloc (.cells #[.int .u8 x] 5)) := by
  refine run_convert_bytes_arg _ _ _ Tryz.underlying31 Tryz.underlying5 w.heap.size 0 1 1 [x] rfl (fun i hi => ?_) _ Tryz.underlying9
  obtain rfl : i = 0 := by omega
  have : (w.alloc (.cells #[.int .u8 x] 5)).cell? ⟨w.heap.size, 0, none⟩ = some (.int .u8 x) := by
    rw [cell_of_row _ w.heap.size 0 _ _ (0, 0) (heap_alloc_new w _)]
    rfl
  simp [this]
theorem mk_add (a b : ByteArray) (h : ((a.size + b.size : Nat) : Int) ≤ 9223372036854775807) : ∀ w : World, (Op.stringOp .add a b).run Tryz.prog w = .ok (.string (a ++ b)) w := by
  intro w
  have h2 : ¬ (((a.size + b.size : Nat) : Int) > IntKind.i64.max) := by
    have : IntKind.i64.max = 9223372036854775807 := by decide
    omega
  simp only [Op.stringOp, h2, if_false]
  rfl
theorem mk_one (x : Int) : (strOfNums [x]).size = 1 := by simp [strOfNums, ByteArray.size]
set_option maxRecDepth 100000 in
theorem markText_c (k : Int) (w : World) (h0 : 0 ≤ k) (h1 : k ≤ 1152921504606846976) :
    Calls Tryz.prog 100 #[.int .i64 k] w fun e w' => (∃ s : ByteArray, e = .returned (.string s)) ∧ Below w.heap.size w w' := by
  by_cases hz : k ≤ 0
  · go_enter Tryz.func100, Tryz.ntmps100
    go_wp2_with fail
    go_ret
    exact ⟨⟨_, rfl⟩, Below.refl _ _⟩
  · have hk : 0 < k := by omega
    go_enter Tryz.func100, Tryz.ntmps100
    go_wp2_with fail
    go_loopw [0, 3] (fun s o wr => ∃ (z : Int) (S : ByteArray), s = .int .i64 z ∧ o = .string S ∧ 0 ≤ z ∧ z ≤ k ∧ Hid ((S.size : Int) + z ≤ k) ∧ Hid (Below w.heap.size w wr)) (fun s _ _ => (intOf s).toNat)
    case atStart => exact ⟨k, ByteArray.empty, rfl, rfl, by omega, by omega, hide (by simp), hide (Below.refl _ _)⟩
    case round =>
      obtain ⟨z, S, rfl, rfl, hz0, hz1, HS, HB⟩ := hrel
      by_cases hlt : 0 < z
      · obtain ⟨q, hq⟩ : ∃ q, z / 10 = q := ⟨_, rfl⟩
        obtain ⟨r, hr⟩ : ∃ r, z % 10 = r := ⟨_, rfl⟩
        have f1 : z.tdiv 10 = q := by rw [Int.tdiv_eq_ediv_of_nonneg (by omega)]; exact hq
        have f2 : z.tmod 10 = r := by rw [Int.tmod_eq_emod_of_nonneg (by omega)]; exact hr
        have r0 : 0 ≤ r := by omega
        have r1 : r ≤ 9 := by omega
        have q0 : 0 ≤ q := by omega
        have q1 : q < z := by omega
        have f3 : IntKind.i64.wrap q = q := IntWalk.i64_in _ (by omega)
        have f4 : IntKind.i64.wrap r = r := IntWalk.i64_in _ (by omega)
        have f5 : IntKind.i64.wrap (48 + r) = 48 + r := IntWalk.i64_in _ (by omega)
        have f6 : IntKind.u8.wrap (48 + r) = 48 + r := by rw [show IntKind.u8.wrap (48 + r) = (48 + r) % 256 from by simp [IntKind.wrap, IntKind.signed, IntKind.bits]]; omega
        have k0 := mk_conv wr (48 + r)
        have kS := mk_add (strOfNums [48 + r]) S (by have := HS.out; have := mk_one (48 + r); omega)
        clear hq hr
        go_wp2_with fail
        go_roundw
        case rel => exact ⟨q, _, rfl, rfl, q0, by omega, hide (by have := HS.out; rw [ByteArray.size_append, mk_one]; omega), hide (HB.out.alloc HB.out.size _)⟩
        case measure => simp [intOf]; omega
      · have kS := mk_add ⟨#[109]⟩ S (by have := HS.out; show (((1 + S.size : Nat) : Int)) ≤ _; omega)
        go_wp2_with fail
        go_ret
        exact ⟨⟨_, rfl⟩, HB.out⟩
set_option maxRecDepth 100000 in
theorem markSigS_c (A : Option Addr) (n c base : Nat) (xs : List Value) (k : Int) (w : World) (ho : Ow w base 77 2 A n c xs) (hn : (n : Int) ≤ 1048576) (h0 : 0 ≤ k) (h1 : k ≤ 281474976710655) :
    Calls Tryz.prog 63 #[.slice A n c, .int .i64 k] w fun e w' => e = .returned (.int .i64 (k + 2 * n)) ∧ w.grownBy w' (blk A) := by
  have HO := hide ho
  clear ho
  go_enter Tryz.func63, Tryz.ntmps63
  go_wp2_with fail
  go_loopw [1, 5] (fun s i wr => ∃ (j : Nat), j ≤ n ∧ i = .int .i64 j ∧ s = .int .i64 (k + 2 * j) ∧ Hid (∃ ys, Ow wr base 77 2 A n c ys) ∧ Hid (w.grownBy wr (blk A))) (fun _ i _ => n - (intOf i).toNat)
  case atStart => exact ⟨0, Nat.zero_le _, rfl, by go_num, hide ⟨xs, HO.out⟩, hide (World.grownBy.refl _ _)⟩
  case round =>
    obtain ⟨j, hj, rfl, rfl, HY, HG⟩ := hrel
    obtain ⟨ys, hown⟩ := HY.out
    have H3 := hide hown
    clear hown HY
    by_cases hlt : j < n
    · obtain ⟨g, rfl, _, _⟩ := H3.out.form (by omega)
      have hj0 : (0 : Int) ≤ j := by omega
      have hj1 : (j : Int) < n := by omega
      have hf0 : ∀ q, wr.frozen? ⟨g, q, none⟩ = false := fun q => World.ownsRow.frozenAt H3.out q
      obtain ⟨u0, hu0⟩ := own_cell H3.out (j * 2) (by omega)
      obtain ⟨u1, hu1⟩ := own_cell H3.out (j * 2 + 1) (by omega)
      go_wp2_with fail
      go_roundw
      case rel =>
        refine ⟨j + 1, by omega, by go_num, ?_, hide ⟨_, (World.ownsRow.stored (World.ownsRow.stored H3.out (j * 2) _).1 (j * 2 + 1) _).1⟩, hide (grown_trans HG.out (grown_trans (World.ownsRow.stored H3.out (j * 2) _).2 (World.ownsRow.stored (World.ownsRow.stored H3.out (j * 2) _).1 (j * 2 + 1) _).2))⟩
        congr 1
        push_cast
        omega
      case measure => simp [intOf]; omega
    · obtain rfl : j = n := by omega
      go_wp2_with fail
      go_ret
      exact ⟨rfl, HG.out⟩
set_option maxRecDepth 100000 in
theorem markGlobalS_c (A : Option Addr) (n c base : Nat) (xs : List Value) (k : Int) (w : World) (ho : Ow w base 87 2 A n c xs) (hn : (n : Int) ≤ 1048576) (h0 : 0 ≤ k) (h1 : k ≤ 281474976710655) :
    Calls Tryz.prog 66 #[.slice A n c, .int .i64 k] w fun e w' => e = .returned (.int .i64 (k + 2 * n)) ∧ w.grownBy w' (blk A) := by
  have HO := hide ho
  clear ho
  go_enter Tryz.func66, Tryz.ntmps66
  go_wp2_with fail
  go_loopw [1, 5] (fun s i wr => ∃ (j : Nat), j ≤ n ∧ i = .int .i64 j ∧ s = .int .i64 (k + 2 * j) ∧ Hid (∃ ys, Ow wr base 87 2 A n c ys) ∧ Hid (w.grownBy wr (blk A))) (fun _ i _ => n - (intOf i).toNat)
  case atStart => exact ⟨0, Nat.zero_le _, rfl, by go_num, hide ⟨xs, HO.out⟩, hide (World.grownBy.refl _ _)⟩
  case round =>
    obtain ⟨j, hj, rfl, rfl, HY, HG⟩ := hrel
    obtain ⟨ys, hown⟩ := HY.out
    have H3 := hide hown
    clear hown HY
    by_cases hlt : j < n
    · obtain ⟨g, rfl, _, _⟩ := H3.out.form (by omega)
      have hj0 : (0 : Int) ≤ j := by omega
      have hj1 : (j : Int) < n := by omega
      have hf0 : ∀ q, wr.frozen? ⟨g, q, none⟩ = false := fun q => World.ownsRow.frozenAt H3.out q
      obtain ⟨u0, hu0⟩ := own_cell H3.out (j * 2) (by omega)
      obtain ⟨u1, hu1⟩ := own_cell H3.out (j * 2 + 1) (by omega)
      go_wp2_with fail
      go_roundw
      case rel =>
        refine ⟨j + 1, by omega, by go_num, ?_, hide ⟨_, (World.ownsRow.stored (World.ownsRow.stored H3.out (j * 2) _).1 (j * 2 + 1) _).1⟩, hide (grown_trans HG.out (grown_trans (World.ownsRow.stored H3.out (j * 2) _).2 (World.ownsRow.stored (World.ownsRow.stored H3.out (j * 2) _).1 (j * 2 + 1) _).2))⟩
        congr 1
        push_cast
        omega
      case measure => simp [intOf]; omega
    · obtain rfl : j = n := by omega
      go_wp2_with fail
      go_ret
      exact ⟨rfl, HG.out⟩
set_option maxRecDepth 100000 in
theorem markImportS_c (A : Option Addr) (n c base : Nat) (xs : List Value) (k : Int) (w : World) (ho : Ow w base 79 3 A n c xs) (hn : (n : Int) ≤ 1048576) (h0 : 0 ≤ k) (h1 : k ≤ 281474976710655) :
    Calls Tryz.prog 64 #[.slice A n c, .int .i64 k] w fun e w' => e = .returned (.int .i64 (k + 3 * n)) ∧ w.grownBy w' (blk A) := by
  have HO := hide ho
  clear ho
  have HM := hide markText_c
  go_enter Tryz.func64, Tryz.ntmps64
  go_wp2_with fail
  go_loopw [1, 5] (fun s i wr => ∃ (j : Nat), j ≤ n ∧ i = .int .i64 j ∧ s = .int .i64 (k + 3 * j) ∧ Hid (∃ ys, Ow wr base 79 3 A n c ys) ∧ Hid (w.grownBy wr (blk A))) (fun _ i _ => n - (intOf i).toNat)
  case atStart => exact ⟨0, Nat.zero_le _, rfl, by go_num, hide ⟨xs, HO.out⟩, hide (World.grownBy.refl _ _)⟩
  case round =>
    obtain ⟨j, hj, rfl, rfl, HY, HG⟩ := hrel
    obtain ⟨ys, hown⟩ := HY.out
    have H3 := hide hown
    clear hown HY
    by_cases hlt : j < n
    · obtain ⟨g, rfl, _, _⟩ := H3.out.form (by omega)
      have hj0 : (0 : Int) ≤ j := by omega
      have hj1 : (j : Int) < n := by omega
      go_wp2_with fail
      refine (HM.out _ wr (by omega) (by omega)).mono ?_
      rintro e w1 ⟨⟨s1, rfl⟩, hb⟩
      have O1 := hide (Ow.below H3.out hb (Nat.le_refl _))
      have G1 := hide (gr_bel2 HG.out hb)
      have hf1 : ∀ q, w1.frozen? ⟨g, q, none⟩ = false := fun q => World.ownsRow.frozenAt O1.out q
      obtain ⟨u0, hu0⟩ := own_cell O1.out (j * 3) (by omega)
      clear hb
      go_wp2_with fail
      have e1 := World.ownsRow.stored O1.out (j * 3) (.string s1)
      have O2 := hide e1.1
      have G2 := hide (grown_trans G1.out e1.2)
      clear e1 hf1 hu0
      generalize w1.setCell ⟨g, j * 3, none⟩ (.string s1) = w2 at O2 G2 ⊢
      refine (HM.out _ w2 (by omega) (by omega)).mono ?_
      rintro e w3 ⟨⟨s2, rfl⟩, hb⟩
      have O3 := hide (Ow.below O2.out hb (Nat.le_refl _))
      have G3 := hide (gr_bel2 G2.out hb)
      have hf3 : ∀ q, w3.frozen? ⟨g, q, none⟩ = false := fun q => World.ownsRow.frozenAt O3.out q
      obtain ⟨u1, hu1⟩ := own_cell O3.out (j * 3 + 1) (by omega)
      obtain ⟨u2, hu2⟩ := own_cell O3.out (j * 3 + 2) (by omega)
      clear hb
      go_wp2_with fail
      go_roundw
      case rel =>
        refine ⟨j + 1, by omega, by go_num, ?_, hide ⟨_, (World.ownsRow.stored (World.ownsRow.stored O3.out (j * 3 + 1) _).1 (j * 3 + 2) _).1⟩, hide (grown_trans G3.out (grown_trans (World.ownsRow.stored O3.out (j * 3 + 1) _).2 (World.ownsRow.stored (World.ownsRow.stored O3.out (j * 3 + 1) _).1 (j * 3 + 2) _).2))⟩
        congr 1
        push_cast
        omega
      case measure => simp [intOf]; omega
    · obtain rfl : j = n := by omega
      go_wp2_with fail
      go_ret
      exact ⟨rfl, HG.out⟩
set_option maxRecDepth 100000 in
theorem markExportS_c (A : Option Addr) (n c base : Nat) (xs : List Value) (k : Int) (w : World) (ho : Ow w base 89 3 A n c xs) (hn : (n : Int) ≤ 1048576) (h0 : 0 ≤ k) (h1 : k ≤ 281474976710655) :
    Calls Tryz.prog 67 #[.slice A n c, .int .i64 k] w fun e w' => e = .returned (.int .i64 (k + 3 * n)) ∧ w.grownBy w' (blk A) := by
  have HO := hide ho
  clear ho
  have HM := hide markText_c
  go_enter Tryz.func67, Tryz.ntmps67
  go_wp2_with fail
  go_loopw [1, 5] (fun s i wr => ∃ (j : Nat), j ≤ n ∧ i = .int .i64 j ∧ s = .int .i64 (k + 3 * j) ∧ Hid (∃ ys, Ow wr base 89 3 A n c ys) ∧ Hid (w.grownBy wr (blk A))) (fun _ i _ => n - (intOf i).toNat)
  case atStart => exact ⟨0, Nat.zero_le _, rfl, by go_num, hide ⟨xs, HO.out⟩, hide (World.grownBy.refl _ _)⟩
  case round =>
    obtain ⟨j, hj, rfl, rfl, HY, HG⟩ := hrel
    obtain ⟨ys, hown⟩ := HY.out
    have H3 := hide hown
    clear hown HY
    by_cases hlt : j < n
    · obtain ⟨g, rfl, _, _⟩ := H3.out.form (by omega)
      have hj0 : (0 : Int) ≤ j := by omega
      have hj1 : (j : Int) < n := by omega
      go_wp2_with fail
      refine (HM.out _ wr (by omega) (by omega)).mono ?_
      rintro e w1 ⟨⟨s1, rfl⟩, hb⟩
      have O1 := hide (Ow.below H3.out hb (Nat.le_refl _))
      have G1 := hide (gr_bel2 HG.out hb)
      have hf1 : ∀ q, w1.frozen? ⟨g, q, none⟩ = false := fun q => World.ownsRow.frozenAt O1.out q
      obtain ⟨u0, hu0⟩ := own_cell O1.out (j * 3) (by omega)
      obtain ⟨u1, hu1⟩ := own_cell O1.out (j * 3 + 1) (by omega)
      obtain ⟨u2, hu2⟩ := own_cell O1.out (j * 3 + 2) (by omega)
      clear hb
      go_wp2_with fail
      go_roundw
      case rel =>
        refine ⟨j + 1, by omega, by go_num, ?_, hide ⟨_, (World.ownsRow.stored (World.ownsRow.stored (World.ownsRow.stored O1.out (j * 3) _).1 (j * 3 + 1) _).1 (j * 3 + 2) _).1⟩, hide (grown_trans G1.out (grown_trans (World.ownsRow.stored O1.out (j * 3) _).2 (grown_trans (World.ownsRow.stored (World.ownsRow.stored O1.out (j * 3) _).1 (j * 3 + 1) _).2 (World.ownsRow.stored (World.ownsRow.stored (World.ownsRow.stored O1.out (j * 3) _).1 (j * 3 + 1) _).1 (j * 3 + 2) _).2)))⟩
        congr 1
        push_cast
        omega
      case measure => simp [intOf]; omega
    · obtain rfl : j = n := by omega
      go_wp2_with fail
      go_ret
      exact ⟨rfl, HG.out⟩
set_option maxRecDepth 100000 in
theorem markFuncS_c (lo hi q : Nat) (A : Option Addr) (n c : Nat) (l : List FV) (k : Int) (w : World) (hA : Ow w lo 84 3 A n c (fl funC l)) (hB : OwF w q 139 l) (hlq : lo ≤ q) (hAq : ∀ g, blk A = some g → g < q) (hAh : ∀ g, blk A = some g → g < hi) (hBh : ∀ x ∈ l, ∀ g, blk x.hd.1 = some g → g < hi)
    (hn : (n : Int) ≤ 1048576) (h0 : 0 ≤ k) (h1 : k ≤ 140737488355328) :
    Calls Tryz.prog 65 #[.slice A n c, .int .i64 k] w fun e w' => (∃ k' : Int, e = .returned (.int .i64 k') ∧ 0 ≤ k' ∧ k' ≤ k + 3145730 * n) ∧ Mt lo hi (fun t => t = 84 ∨ t = 139) w w' := by
  have HL := hide (rd_len (f := funC) (s := 3) (fun _ => rfl) (by omega) hA.rd)
  have hAc : ∀ i x, l[i]? = some x → (fl funC l)[i * 3 + 2]? = some (hv x.hd) := fun i x hx => fl_get (s := 3) funL l i x hx 2 (by omega)
  have HA := hide (And.intro hA hAc)
  have HB := hide hB
  have HQ := hide (And.intro hAq (And.intro hAh hBh))
  clear hA hAc hB hAq hAh hBh
  go_enter Tryz.func65, Tryz.ntmps65
  go_wp2_with fail
  go_loopw [1, 5] (fun s i wr => ∃ (j : Nat) (z : Int), j ≤ n ∧ i = .int .i64 j ∧ s = .int .i64 z ∧ 0 ≤ z ∧ z ≤ k + 3145730 * j ∧ Hid (∃ ys, Ow wr lo 84 3 A n c ys ∧ ∀ i x, l[i]? = some x → ys[i * 3 + 2]? = some (hv x.hd)) ∧ Hid (OwF wr q 139 (l.drop j)) ∧ Hid (Mt lo hi (fun t => t = 84 ∨ t = 139) w wr)) (fun _ i _ => n - (intOf i).toNat)
  case atStart => exact ⟨0, k, Nat.zero_le _, rfl, rfl, h0, by omega, hide ⟨_, HA.out.1, HA.out.2⟩, HB, hide Mt.refl⟩
  case round =>
    obtain ⟨j, z, hj, rfl, rfl, hz0, hz1, HY, HD, HG⟩ := hrel
    obtain ⟨ys, hown, hys⟩ := HY.out
    have H3 := hide hown
    have HS := hide hys
    clear hown hys HY
    by_cases hlt : j < n
    · obtain ⟨g, rfl, _, _⟩ := H3.out.form (by omega)
      have hj0 : (0 : Int) ≤ j := by omega
      have hj1 : (j : Int) < n := by omega
      have hjl : j < l.length := by have := HL.out; omega
      obtain ⟨x, hx⟩ : ∃ x, l[j]? = some x := ⟨_, List.getElem?_eq_getElem hjl⟩
      have hdr : l.drop j = x :: l.drop (j + 1) := by rw [List.drop_eq_getElem_cons hjl]; rw [List.getElem?_eq_getElem hjl] at hx; rw [Option.some.inj hx]
      have hD := HD.out
      rw [hdr] at hD
      have hcx := HS.out j x hx
      have hxl : x ∈ l := List.mem_of_getElem? hx
      have hxh := HQ.out.2.2 x hxl
      obtain ⟨x0, x1, ⟨B, m, cc⟩, bd⟩ := x
      have hxo := (hD.1 _ (List.mem_cons_self)).2
      have hxn := (hD.1 _ (List.mem_cons_self)).1
      simp only [hv] at hcx
      simp only [] at hxo hxn hxh
      have hpw := List.pairwise_cons.1 hD.2
      have hrest : OwF wr q 139 (l.drop (j + 1)) := ⟨fun y hy => hD.1 y (List.mem_cons_of_mem _ hy), hpw.2⟩
      have hf0 : ∀ q, wr.frozen? ⟨g, q, none⟩ = false := fun q => World.ownsRow.frozenAt H3.out q
      obtain ⟨u0, hu0⟩ := own_cell H3.out (j * 3) (by omega)
      obtain ⟨u1, hu1⟩ := own_cell H3.out (j * 3 + 1) (by omega)
      have e0 := World.ownsRow.stored H3.out (j * 3) (.int .i64 (z))
      have e1 := World.ownsRow.stored e0.1 (j * 3 + 1) (.int .i64 (z + 1))
      have HG2 := hide (grown_trans e0.2 e1.2)
      have HO2 := hide e1.1
      have hc2 : ((wr.setCell ⟨g, j * 3, none⟩ (.int .i64 (z))).setCell ⟨g, j * 3 + 1, none⟩ (.int .i64 (z + 1))).cell? ⟨g, j * 3 + 2, none⟩ = some (.slice B m cc) := by
        have h := World.ownsRow.cellAt e1.1 (j * 3 + 2) (by omega)
        rw [h]
        simp only [List.getElem?_set]
        rw [if_neg (by omega), if_neg (by omega)]
        exact hcx
      have HX := hide (And.intro hxo (And.intro hxn hxh))
      have HP := hide hpw.1
      have HR := hide hrest
      have hm : (m : Int) ≤ 1048576 := by omega
      clear e0 e1 hxo hxn hpw hrest hD hdr hcx hxh
      have HM1 := hide (show Mt lo hi (fun t => t = 84 ∨ t = 139) wr ((wr.setCell ⟨g, j * 3, none⟩ (.int .i64 (z))).setCell ⟨g, j * 3 + 1, none⟩ (.int .i64 (z + 1))) from Mt.grown HG2.out (fun g' e => by
        cases e
        obtain ⟨cs, x, hc⟩ := ow_type H3.out g rfl
        exact ⟨(H3.out.blk_lt g rfl).1, HQ.out.2.1 g rfl, cs, _, x, hc, .inl rfl⟩))
      have hset : ∀ {b e2 s2 n2 c2 : Nat} {A2 : Option Addr} {xs2 : List Value}, q ≤ b → Ow wr b e2 s2 A2 n2 c2 xs2 → Ow ((wr.setCell ⟨g, j * 3, none⟩ (.int .i64 (z))).setCell ⟨g, j * 3 + 1, none⟩ (.int .i64 (z + 1))) b e2 s2 A2 n2 c2 xs2 := fun hb h => h.kept HG2.out (blk_ne' (A := some ⟨g, 0, none⟩) (B := q) (fun g' e => by cases e; exact HQ.out.1 g rfl) (fun g' e => Nat.le_trans hb (h.ge g' e)))
      have HX2 := hide (hset (Nat.le_refl _) HX.out.1)
      have HR2 : Hid (OwF ((wr.setCell ⟨g, j * 3, none⟩ (.int .i64 (z))).setCell ⟨g, j * 3 + 1, none⟩ (.int .i64 (z + 1))) q 139 (l.drop (j + 1))) := hide ⟨fun y hy => ⟨(HR.out.1 y hy).1, hset (Nat.le_refl _) (HR.out.1 y hy).2⟩, HR.out.2⟩
      clear hset HR HG2
      go_wp2_with fail
      generalize (wr.setCell ⟨g, j * 3, none⟩ (.int .i64 (z))).setCell ⟨g, j * 3 + 1, none⟩ (.int .i64 (z + 1)) = w2 at HO2 hc2 HM1 HX2 HR2 ⊢
      refine (markInsS_c B m cc q _ _ w2 HX2.out (by omega) (by omega) (by omega)).mono ?_
      rintro e w3 ⟨rfl, hg⟩
      have HM3 := hide (Mt.row (lo := lo) (hi := hi) (P := fun t => t = 84 ∨ t = 139) HX2.out hg hlq HX.out.2.2 (.inr rfl))
      have HO3 := hide (show Ow w3 lo 84 3 (some ⟨g, 0, none⟩) n c _ from Ow.kept HO2.out hg (blk_ne (A := some ⟨g, 0, none⟩) (B := q) (fun g' e => by cases e; exact HQ.out.1 g rfl) (fun g' e => HX2.out.ge g' e)))
      have HR3 : Hid (OwF w3 q 139 (l.drop (j + 1))) := hide ⟨fun y hy => ⟨(HR2.out.1 y hy).1, (HR2.out.1 y hy).2.kept hg ((HP.out y hy).elim (fun h => by rw [h]; exact (by rcases blk y.hd.1 with _ | b; exact .inl rfl; exact .inr (by simp))) (fun h => .inr (Ne.symm h)))⟩, HR2.out.2⟩
      clear hg
      go_wp2_with fail
      go_roundw
      case rel =>
        refine ⟨j + 1, _, by omega, by go_num, rfl, by omega, by push_cast; omega, hide ⟨_, HO3.out, fun i x hx => ?_⟩, HR3, hide ((HG.out.trans HM1.out).trans HM3.out)⟩
        have h := HS.out i x hx
        simp only [List.getElem?_set]
        rw [if_neg (by omega), if_neg (by omega)]
        exact h
      case measure => simp [intOf]; omega
    · obtain rfl : j = n := by omega
      go_wp2_with fail
      go_ret
      exact ⟨⟨z, rfl, hz0, hz1⟩, HG.out⟩
set_option maxRecDepth 100000 in
theorem markDataS_c (lo hi q : Nat) (A : Option Addr) (n c : Nat) (l : List DV) (k : Int) (w : World) (hA : Ow w lo 93 2 A n c (fl datC l)) (hB : OwD w q 5 l) (hlq : lo ≤ q) (hAq : ∀ g, blk A = some g → g < q) (hAh : ∀ g, blk A = some g → g < hi) (hBh : ∀ x ∈ l, ∀ g, blk x.hd.1 = some g → g < hi)
    (hn : (n : Int) ≤ 1048576) (h0 : 0 ≤ k) (h1 : k ≤ 140737488355328) :
    Calls Tryz.prog 68 #[.slice A n c, .int .i64 k] w fun e w' => (∃ k' : Int, e = .returned (.int .i64 k') ∧ 0 ≤ k' ∧ k' ≤ k + 1048577 * n) ∧ Mt lo hi (fun t => t = 93 ∨ t = 5) w w' := by
  have HL := hide (rd_len (f := datC) (s := 2) (fun _ => rfl) (by omega) hA.rd)
  have hAc : ∀ i x, l[i]? = some x → (fl datC l)[i * 2 + 1]? = some (hv x.hd) := fun i x hx => fl_get (s := 2) datL l i x hx 1 (by omega)
  have HA := hide (And.intro hA hAc)
  have HB := hide hB
  have HQ := hide (And.intro hAq (And.intro hAh hBh))
  clear hA hAc hB hAq hAh hBh
  go_enter Tryz.func68, Tryz.ntmps68
  go_wp2_with fail
  go_loopw [1, 5] (fun s i wr => ∃ (j : Nat) (z : Int), j ≤ n ∧ i = .int .i64 j ∧ s = .int .i64 z ∧ 0 ≤ z ∧ z ≤ k + 1048577 * j ∧ Hid (∃ ys, Ow wr lo 93 2 A n c ys ∧ ∀ i x, l[i]? = some x → ys[i * 2 + 1]? = some (hv x.hd)) ∧ Hid (OwD wr q 5 (l.drop j)) ∧ Hid (Mt lo hi (fun t => t = 93 ∨ t = 5) w wr)) (fun _ i _ => n - (intOf i).toNat)
  case atStart => exact ⟨0, k, Nat.zero_le _, rfl, rfl, h0, by omega, hide ⟨_, HA.out.1, HA.out.2⟩, HB, hide Mt.refl⟩
  case round =>
    obtain ⟨j, z, hj, rfl, rfl, hz0, hz1, HY, HD, HG⟩ := hrel
    obtain ⟨ys, hown, hys⟩ := HY.out
    have H3 := hide hown
    have HS := hide hys
    clear hown hys HY
    by_cases hlt : j < n
    · obtain ⟨g, rfl, _, _⟩ := H3.out.form (by omega)
      have hj0 : (0 : Int) ≤ j := by omega
      have hj1 : (j : Int) < n := by omega
      have hjl : j < l.length := by have := HL.out; omega
      obtain ⟨x, hx⟩ : ∃ x, l[j]? = some x := ⟨_, List.getElem?_eq_getElem hjl⟩
      have hdr : l.drop j = x :: l.drop (j + 1) := by rw [List.drop_eq_getElem_cons hjl]; rw [List.getElem?_eq_getElem hjl] at hx; rw [Option.some.inj hx]
      have hD := HD.out
      rw [hdr] at hD
      have hcx := HS.out j x hx
      have hxl : x ∈ l := List.mem_of_getElem? hx
      have hxh := HQ.out.2.2 x hxl
      obtain ⟨x0, ⟨B, m, cc⟩, bd⟩ := x
      have hxo := (hD.1 _ (List.mem_cons_self)).2
      have hxn := (hD.1 _ (List.mem_cons_self)).1
      simp only [hv] at hcx
      simp only [] at hxo hxn hxh
      have hpw := List.pairwise_cons.1 hD.2
      have hrest : OwD wr q 5 (l.drop (j + 1)) := ⟨fun y hy => hD.1 y (List.mem_cons_of_mem _ hy), hpw.2⟩
      have hf0 : ∀ q, wr.frozen? ⟨g, q, none⟩ = false := fun q => World.ownsRow.frozenAt H3.out q
      obtain ⟨u0, hu0⟩ := own_cell H3.out (j * 2) (by omega)
      have e0 := World.ownsRow.stored H3.out (j * 2) (.int .i64 (z))
      have HG2 := hide e0.2
      have HO2 := hide e0.1
      have hc2 : (wr.setCell ⟨g, j * 2, none⟩ (.int .i64 (z))).cell? ⟨g, j * 2 + 1, none⟩ = some (.slice B m cc) := by
        have h := World.ownsRow.cellAt e0.1 (j * 2 + 1) (by omega)
        rw [h]
        simp only [List.getElem?_set]
        rw [if_neg (by omega)]
        exact hcx
      have HX := hide (And.intro hxo (And.intro hxn hxh))
      have HP := hide hpw.1
      have HR := hide hrest
      have hm : (m : Int) ≤ 1048576 := by omega
      clear e0 hxo hxn hpw hrest hD hdr hcx hxh
      have HM1 := hide (show Mt lo hi (fun t => t = 93 ∨ t = 5) wr (wr.setCell ⟨g, j * 2, none⟩ (.int .i64 (z))) from Mt.grown HG2.out (fun g' e => by
        cases e
        obtain ⟨cs, x, hc⟩ := ow_type H3.out g rfl
        exact ⟨(H3.out.blk_lt g rfl).1, HQ.out.2.1 g rfl, cs, _, x, hc, .inl rfl⟩))
      have hset : ∀ {b e2 s2 n2 c2 : Nat} {A2 : Option Addr} {xs2 : List Value}, q ≤ b → Ow wr b e2 s2 A2 n2 c2 xs2 → Ow (wr.setCell ⟨g, j * 2, none⟩ (.int .i64 (z))) b e2 s2 A2 n2 c2 xs2 := fun hb h => h.kept HG2.out (blk_ne' (A := some ⟨g, 0, none⟩) (B := q) (fun g' e => by cases e; exact HQ.out.1 g rfl) (fun g' e => Nat.le_trans hb (h.ge g' e)))
      have HX2 := hide (hset (Nat.le_refl _) HX.out.1)
      have HR2 : Hid (OwD (wr.setCell ⟨g, j * 2, none⟩ (.int .i64 (z))) q 5 (l.drop (j + 1))) := hide ⟨fun y hy => ⟨(HR.out.1 y hy).1, hset (Nat.le_refl _) (HR.out.1 y hy).2⟩, HR.out.2⟩
      clear hset HR HG2
      go_wp2_with fail
      generalize wr.setCell ⟨g, j * 2, none⟩ (.int .i64 (z)) = w2 at HO2 hc2 HM1 HX2 HR2 ⊢
      refine (markByteS_c B m cc q _ _ w2 HX2.out (by omega) (by omega) (by omega)).mono ?_
      rintro e w3 ⟨rfl, _, hg⟩
      have HM3 := hide (Mt.row (lo := lo) (hi := hi) (P := fun t => t = 93 ∨ t = 5) HX2.out hg hlq HX.out.2.2 (.inr rfl))
      have HO3 := hide (show Ow w3 lo 93 2 (some ⟨g, 0, none⟩) n c _ from Ow.kept HO2.out hg (blk_ne (A := some ⟨g, 0, none⟩) (B := q) (fun g' e => by cases e; exact HQ.out.1 g rfl) (fun g' e => HX2.out.ge g' e)))
      have HR3 : Hid (OwD w3 q 5 (l.drop (j + 1))) := hide ⟨fun y hy => ⟨(HR2.out.1 y hy).1, (HR2.out.1 y hy).2.kept hg ((HP.out y hy).elim (fun h => by rw [h]; exact (by rcases blk y.hd.1 with _ | b; exact .inl rfl; exact .inr (by simp))) (fun h => .inr (Ne.symm h)))⟩, HR2.out.2⟩
      clear hg
      go_wp2_with fail
      go_roundw
      case rel =>
        refine ⟨j + 1, _, by omega, by go_num, rfl, by omega, by push_cast; omega, hide ⟨_, HO3.out, fun i x hx => ?_⟩, HR3, hide ((HG.out.trans HM1.out).trans HM3.out)⟩
        have h := HS.out i x hx
        simp only [List.getElem?_set]
        rw [if_neg (by omega)]
        exact h
      case measure => simp [intOf]; omega
    · obtain rfl : j = n := by omega
      go_wp2_with fail
      go_ret
      exact ⟨⟨z, rfl, hz0, hz1⟩, HG.out⟩
theorem Mt.blk {lo hi : Nat} {P : TypeId → Prop} {w w' : World} {b : Nat} {cs : Array Value} {t : TypeId} (h : Mt lo hi P w w') (hb : Blk w b cs t) (hh : hi ≤ b) : Blk w' b cs t := (h.block b hb.lt (.inr (.inl hh))).trans hb
set_option maxRecDepth 100000 in
set_option maxHeartbeats 4000000 in
theorem markModule_c (m : MV) (base : Nat) (w0 w : World) (k : Int) (hO0 : m.Own w0 base) (hO : m.Own w base) (hL : m.Long 1048576) (hs : w0.heap.size ≤ w.heap.size) (h0 : 0 ≤ k) (h1 : k ≤ 1) :
    Calls Tryz.prog 11 #[m.v, .int .i64 k] w fun e w' => (∃ k' : Int, e = .returned (.int .i64 k') ∧ 0 ≤ k') ∧ Mt base w0.heap.size (fun _ => True) w w' := by
  obtain ⟨⟨S, Sn, Sc⟩, ⟨I, In, Ic⟩, ⟨F, Fn, Fc⟩, pg, mo, ⟨G, Gn, Gc⟩, ⟨E, En, Ec⟩, ⟨D, Dn, Dc⟩, sigs, imps, funs, glos, exps, dats⟩ := m
  obtain ⟨q, hq0, hq1, hFB⟩ := hO.FB
  obtain ⟨r, hr0, hr1, hDB⟩ := hO.DB
  obtain ⟨q', _, _, hFB0⟩ := hO0.FB
  obtain ⟨r', _, _, hDB0⟩ := hO0.DB
  obtain ⟨hi, hhi⟩ : ∃ hi, w0.heap.size = hi := ⟨_, rfl⟩
  have HH := hide (And.intro (fun g h => hhi ▸ hO0.S.lt g h) (And.intro (fun g h => hhi ▸ hO0.I.lt g h) (And.intro (fun g h => hhi ▸ hO0.F.lt g h) (And.intro (fun g h => hhi ▸ hO0.G.lt g h) (And.intro (fun g h => hhi ▸ hO0.E.lt g h) (fun g h => hhi ▸ hO0.D.lt g h))))))
  have HHF := hide (show ∀ x ∈ funs, ∀ g, blk x.hd.1 = some g → g < hi from fun x hx g h => hhi ▸ (hFB0.1 x hx).2.lt g h)
  have HHD := hide (show ∀ x ∈ dats, ∀ g, blk x.hd.1 = some g → g < hi from fun x hx g h => hhi ▸ (hDB0.1 x hx).2.lt g h)
  rw [hhi] at hs ⊢
  have hL1 : (Sn : Int) ≤ 1048576 := hL.S
  have hL2 : (In : Int) ≤ 1048576 := hL.I
  have hL3 : (Fn : Int) ≤ 1048576 := hL.F
  have hL4 : (Gn : Int) ≤ 1048576 := hL.G
  have hL5 : (En : Int) ≤ 1048576 := hL.E
  have hL6 : (Dn : Int) ≤ 1048576 := hL.D
  have HB := hide ((Below.refl w.heap.size w).alloc (Nat.le_refl _) (.cells #[.slice S Sn Sc, .slice I In Ic, .slice F Fn Fc, .int .i64 pg, .int .i64 mo, .slice G Gn Gc, .slice E En Ec, .slice D Dn Dc] 41))
  have HM := hide (Mt.bel (lo := base) (hi := hi) (P := fun _ => True) Mt.refl HB.out)
  have HK := hide (Blk.new w #[.slice S Sn Sc, .slice I In Ic, .slice F Fn Fc, .int .i64 pg, .int .i64 mo, .slice G Gn Gc, .slice E En Ec, .slice D Dn Dc] 41)
  have hbb : ∀ {W' : World}, Below w.heap.size w W' → True := fun _ => trivial
  have OS := hide (hO.S.below HB.out (Nat.le_refl _))
  have OI := hide (hO.I.below HB.out (Nat.le_refl _))
  have OF := hide (hO.F.below HB.out (Nat.le_refl _))
  have FB := hide (hFB.below HB.out)
  have OG := hide (hO.G.below HB.out (Nat.le_refl _))
  have OE := hide (hO.E.below HB.out (Nat.le_refl _))
  have OD := hide (hO.D.below HB.out (Nat.le_refl _))
  have DB := hide (hDB.below HB.out)
  have HQ := hide (And.intro hq0 (And.intro hq1 (And.intro hr0 hr1)))
  clear hq0 hq1 hr0 hr1 hFB hDB hFB0 hDB0 hL hO hO0 hbb
  simp only [] at OS OI OF FB OG OE OD DB HH HHF HHD HQ
  change Calls Tryz.prog 11 #[.agg #[.slice S Sn Sc, .slice I In Ic, .slice F Fn Fc, .int .i64 pg, .int .i64 mo, .slice G Gn Gc, .slice E En Ec, .slice D Dn Dc], .int .i64 k] w _
  have hz0 : 0 ≤ k := h0
  have hz1 : k ≤ 1 := h1
  go_enter Tryz.func11, Tryz.ntmps11
  go_wp2_with fail
  generalize w.alloc (.cells #[.slice S Sn Sc, .slice I In Ic, .slice F Fn Fc, .int .i64 pg, .int .i64 mo, .slice G Gn Gc, .slice E En Ec, .slice D Dn Dc] 41) = W0 at HB HM HK OS OI OF FB OG OE OD DB ⊢
  refine (markSigS_c S Sn Sc base _ k _ OS.out hL1 (by omega) (by omega)).mono ?_
  rintro e w1 ⟨rfl, hg⟩
  have hm : Mt base hi (fun t => t = 77) W0 w1 := Mt.row OS.out hg (Nat.le_refl _) HH.out.1 rfl
  clear hg
  replace OI := hide (hm.kept OI.out (.inl (by decide)))
  replace OF := hide (hm.kept OF.out (.inl (by decide)))
  replace FB := hide (hm.keptF FB.out (by decide))
  replace OG := hide (hm.kept OG.out (.inl (by decide)))
  replace OE := hide (hm.kept OE.out (.inl (by decide)))
  replace OD := hide (hm.kept OD.out (.inl (by decide)))
  replace DB := hide (hm.keptD DB.out (by decide))
  replace HK := hide (hm.blk HK.out hs)
  replace HM := hide (HM.out.trans (hm.weak (fun _ _ => trivial)))
  clear hm OS
  obtain ⟨k1, hk1⟩ : ∃ k1, k + 2 * (Sn : Int) = k1 := ⟨_, rfl⟩
  have hk1a : 0 ≤ k1 := by omega
  have hk1b : k1 ≤ k + 2 * (Sn : Int) := by omega
  rw [hk1]
  clear hk1
  have p1 : w1.cell? ⟨w.heap.size, 1, none⟩ = some (.slice I In Ic) := HK.out.cell 1
  go_wp2_with fail
  refine (markImportS_c I In Ic base _ k1 _ OI.out hL2 (by omega) (by omega)).mono ?_
  rintro e w2 ⟨rfl, hg⟩
  have hm : Mt base hi (fun t => t = 79) w1 w2 := Mt.row OI.out hg (Nat.le_refl _) HH.out.2.1 rfl
  clear hg
  replace OF := hide (hm.kept OF.out (.inl (by decide)))
  replace FB := hide (hm.keptF FB.out (by decide))
  replace OG := hide (hm.kept OG.out (.inl (by decide)))
  replace OE := hide (hm.kept OE.out (.inl (by decide)))
  replace OD := hide (hm.kept OD.out (.inl (by decide)))
  replace DB := hide (hm.keptD DB.out (by decide))
  replace HK := hide (hm.blk HK.out hs)
  replace HM := hide (HM.out.trans (hm.weak (fun _ _ => trivial)))
  clear hm OI p1
  obtain ⟨k2, hk2⟩ : ∃ k2, k1 + 3 * (In : Int) = k2 := ⟨_, rfl⟩
  have hk2a : 0 ≤ k2 := by omega
  have hk2b : k2 ≤ k1 + 3 * (In : Int) := by omega
  rw [hk2]
  clear hk2
  have p2 : w2.cell? ⟨w.heap.size, 2, none⟩ = some (.slice F Fn Fc) := HK.out.cell 2
  go_wp2_with fail
  refine (markFuncS_c base hi q F Fn Fc funs k2 _ OF.out FB.out HQ.out.1 HQ.out.2.1 HH.out.2.2.1 HHF.out hL3 (by omega) (by omega)).mono ?_
  rintro e w3 ⟨⟨k3, rfl, hk3a, hk3b⟩, hm⟩
  replace OG := hide (hm.kept OG.out (.inl (by decide)))
  replace OE := hide (hm.kept OE.out (.inl (by decide)))
  replace OD := hide (hm.kept OD.out (.inl (by decide)))
  replace DB := hide (hm.keptD DB.out (by decide))
  replace HK := hide (hm.blk HK.out hs)
  replace HM := hide (HM.out.trans (hm.weak (fun _ _ => trivial)))
  clear hm OF FB p2
  have p5 : w3.cell? ⟨w.heap.size, 5, none⟩ = some (.slice G Gn Gc) := HK.out.cell 5
  go_wp2_with fail
  refine (markGlobalS_c G Gn Gc base _ k3 _ OG.out hL4 (by omega) (by omega)).mono ?_
  rintro e w4 ⟨rfl, hg⟩
  have hm : Mt base hi (fun t => t = 87) w3 w4 := Mt.row OG.out hg (Nat.le_refl _) HH.out.2.2.2.1 rfl
  clear hg
  replace OE := hide (hm.kept OE.out (.inl (by decide)))
  replace OD := hide (hm.kept OD.out (.inl (by decide)))
  replace DB := hide (hm.keptD DB.out (by decide))
  replace HK := hide (hm.blk HK.out hs)
  replace HM := hide (HM.out.trans (hm.weak (fun _ _ => trivial)))
  clear hm OG p5
  obtain ⟨k4, hk4⟩ : ∃ k4, k3 + 2 * (Gn : Int) = k4 := ⟨_, rfl⟩
  have hk4a : 0 ≤ k4 := by omega
  have hk4b : k4 ≤ k3 + 2 * (Gn : Int) := by omega
  rw [hk4]
  clear hk4
  have p6 : w4.cell? ⟨w.heap.size, 6, none⟩ = some (.slice E En Ec) := HK.out.cell 6
  go_wp2_with fail
  refine (markExportS_c E En Ec base _ k4 _ OE.out hL5 (by omega) (by omega)).mono ?_
  rintro e w5 ⟨rfl, hg⟩
  have hm : Mt base hi (fun t => t = 89) w4 w5 := Mt.row OE.out hg (Nat.le_refl _) HH.out.2.2.2.2.1 rfl
  clear hg
  replace OD := hide (hm.kept OD.out (.inl (by decide)))
  replace DB := hide (hm.keptD DB.out (by decide))
  replace HK := hide (hm.blk HK.out hs)
  replace HM := hide (HM.out.trans (hm.weak (fun _ _ => trivial)))
  clear hm OE p6
  obtain ⟨k5, hk5⟩ : ∃ k5, k4 + 3 * (En : Int) = k5 := ⟨_, rfl⟩
  have hk5a : 0 ≤ k5 := by omega
  have hk5b : k5 ≤ k4 + 3 * (En : Int) := by omega
  rw [hk5]
  clear hk5
  have p7 : w5.cell? ⟨w.heap.size, 7, none⟩ = some (.slice D Dn Dc) := HK.out.cell 7
  go_wp2_with fail
  refine (markDataS_c base hi r D Dn Dc dats k5 _ OD.out DB.out HQ.out.2.2.1 HQ.out.2.2.2 HH.out.2.2.2.2.2 HHD.out hL6 (by omega) (by omega)).mono ?_
  rintro e w6 ⟨⟨k6, rfl, hk6a, hk6b⟩, hm⟩
  replace HK := hide (hm.blk HK.out hs)
  replace HM := hide (HM.out.trans (hm.weak (fun _ _ => trivial)))
  clear hm OD DB p7
  go_wp2_with fail
  go_ret
  exact ⟨⟨_, rfl, by omega⟩, HM.out⟩
end Go.Proofs.YtiinkfejdnfonaaGreatDoor.Mo
