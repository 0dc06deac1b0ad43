/- The bytes of instructions, in the program and in the reference: a contract each. -/
import Derived.Test.YtiinkfejdnfonaaDoorInsS
import Derived.Test.YtiinkfejdnfonaaDoorPutC
import Derived.Deep.RegionLaw
namespace Go.Proofs.YtiinkfejdnfonaaDoor.Bb
open Go.RowKit Go.Proofs.YtiinkfejdnfonaaDoor.Num Go.Proofs.YtiinkfejdnfonaaDoor.NumC Go.Proofs.YtiinkfejdnfonaaDoor.Mem Go.Proofs.YtiinkfejdnfonaaDoor.Shape Go.Proofs.YtiinkfejdnfonaaDoor.Body Go.Proofs.YtiinkfejdnfonaaDoor.Ops Go.Proofs.YtiinkfejdnfonaaDoor.Leb
set_option linter.unusedVariables false

/-- the bytes of an instruction -/
def tailB (k op a b : Int) : List Int :=
  if k = 1 then (if a = 1 then [127] else [64]) else if k = 2 then putU 5 (a % 4294967296) else if k = 3 then putU 5 (b % 4294967296) ++ putU 5 (a % 4294967296)
  else if k = 4 then putS 5 (wrap32 a) else if op = 63 ∨ op = 64 then [0] else []
def insB (i : Ins3) : List Int := i.1 % 256 :: tailB (kind i.1) i.1 i.2.1 i.2.2
def bodyB : List Ins3 → List Int
  | [] => []
  | i :: l => insB i ++ bodyB l
def allOk (l : List Ins3) : Bool := l.all insOk
theorem tailB_le (k op a b : Int) : (tailB k op a b).length ≤ 10 := by
  have h1 := putU_le 5 (a % 4294967296)
  have h2 := putU_le 5 (b % 4294967296)
  have h3 := putS_le 5 (wrap32 a)
  unfold tailB
  repeat' split
  all_goals first
    | (simp only [List.length_append, List.length_cons, List.length_nil]; omega)
    | omega
theorem insB_le (i : Ins3) : (insB i).length ≤ 11 := by
  have := tailB_le (kind i.1) i.1 i.2.1 i.2.2
  simp only [insB, List.length_cons]
  omega
theorem bodyB_le : ∀ l : List Ins3, (bodyB l).length ≤ 11 * l.length
  | [] => by simp [bodyB]
  | i :: l => by
    have := insB_le i
    have := bodyB_le l
    simp only [bodyB, List.length_append, List.length_cons]
    omega
theorem bodyB_app : ∀ l m : List Ins3, bodyB (l ++ m) = bodyB l ++ bodyB m
  | [], m => rfl
  | i :: l, m => by simp only [List.cons_append, bodyB, bodyB_app l m, List.append_assoc]
theorem tailB_byte (k op a b : Int) : ∀ x ∈ tailB k op a b, 0 ≤ x ∧ x ≤ 255 := by
  unfold tailB
  repeat' split
  · simp
  · simp
  · exact putU_byte 5 _ (by omega)
  · intro x hx
    rcases List.mem_append.1 hx with h | h
    · exact putU_byte 5 _ (by omega) x h
    · exact putU_byte 5 _ (by omega) x h
  · exact putS_byte 5 _
  · simp
  · simp
theorem take_more {l : List Ins3} {k : Nat} {x : Ins3} (h : l[k]? = some x) : bodyB (l.take (k + 1)) = bodyB (l.take k) ++ insB x := by
  obtain ⟨hk, rfl⟩ := List.getElem?_eq_some_iff.1 h
  rw [← List.take_append_getElem hk, bodyB_app]
  simp [bodyB]
theorem allOk_no {l : List Ins3} {k : Nat} {x : Ins3} (h : l[k]? = some x) (hx : insOk x = false) : allOk l = false := by
  unfold allOk
  rw [Bool.eq_false_iff]
  intro ha
  have := List.all_eq_true.1 ha x (List.mem_of_getElem? h)
  rw [hx] at this
  cases this
theorem allOk_yes {l : List Ins3} (h : ∀ j : Nat, ∀ x, l[j]? = some x → insOk x = true) : allOk l = true := by
  unfold allOk
  rw [List.all_eq_true]
  intro x hx
  obtain ⟨j, hj, he⟩ := List.getElem_of_mem hx
  exact h j x (by rw [List.getElem?_eq_getElem hj, he])
theorem tail1 {op a b : Int} (h : a = 1) : tailB 1 op a b = [127] := by unfold tailB; rw [if_pos rfl, if_pos h]
theorem tail1' {op a b : Int} (h : a ≠ 1) : tailB 1 op a b = [64] := by unfold tailB; rw [if_pos rfl, if_neg h]
theorem tail2 {op a b : Int} : tailB 2 op a b = putU 5 (a % 4294967296) := rfl
theorem tail3 {op a b : Int} : tailB 3 op a b = putU 5 (b % 4294967296) ++ putU 5 (a % 4294967296) := rfl
theorem tail4 {op a b : Int} : tailB 4 op a b = putS 5 (wrap32 a) := rfl
theorem tail0 {op a b : Int} (h : op = 63 ∨ op = 64) : tailB 0 op a b = [0] := by
  unfold tailB
  rw [if_neg (by omega), if_neg (by omega), if_neg (by omega), if_neg (by omega), if_pos h]
theorem tail0' {op a b : Int} (h : ¬ (op = 63 ∨ op = 64)) : tailB 0 op a b = [] := by
  unfold tailB
  rw [if_neg (by omega), if_neg (by omega), if_neg (by omega), if_neg (by omega), if_neg h]
theorem insB_eq {op a b k v : Int} {T : List Int} (hv : IntKind.u8.wrap op = v) (hk : kind op = k) (hT : tailB k op a b = T) : insB (op, a, b) = v :: T := by
  have h1 : op % 256 = v := by rw [← hv, IntKind.wrap_u8]
  show op % 256 :: tailB (kind op) op a b = v :: T
  rw [hk, hT, h1]
theorem fresh_up {w W1 w' : World} {L X : List Int} {N c : Nat} {A : Option Addr} (hb : Below w.heap.size w W1) (ho : Ow w' W1.heap.size 5 1 A N c (by8 X)) (hb2 : Below W1.heap.size W1 w') (hN : N = L.length) (hX : X = L) :
    Fresh 5 1 L.length (by8 L) w (.returned (.slice A N c)) w' := by
  subst hN; subst hX
  exact ⟨A, c, rfl, ho.base_le hb.size, bel_step hb hb2 hb.size⟩
theorem lit1 (W : World) (v : Int) : Ow (W.alloc (.cells #[.int .u8 v] 5)) W.heap.size 5 1 (some ⟨W.heap.size, 0, none⟩) 1 1 (by8 [v]) := World.ownsRow_lit W #[.int .u8 v] 1 (Nat.le_refl _) (by decide) rfl
theorem gr_all (w : World) (o : Obj) (row : Option Nat) : w.grownBy (w.alloc o) row := ⟨rfl, rfl, rfl, by simp, fun k hk _ => Below.heap_alloc w o k hk⟩
theorem keep3 {w w3 : World} {op a b : Int} {t : TypeId} {base e size n d : Nat} {B : Option Addr} {xs : List Value} (V0 : Var3 w op a b (w.alloc (.cells #[.int .i64 op, .int .i64 a, .int .i64 b] t))) (ho : Ow w base e size B n d xs) (hg : (w.alloc (.cells #[.int .i64 op, .int .i64 a, .int .i64 b] t)).grownBy w3 (blk B)) :
    w3.cell? ⟨w.heap.size, 0, none⟩ = some (.int .i64 op) ∧ w3.cell? ⟨w.heap.size, 1, none⟩ = some (.int .i64 a) ∧ w3.cell? ⟨w.heap.size, 2, none⟩ = some (.int .i64 b) := by
  have hkeep : ∀ q, w3.cell? ⟨w.heap.size, q, none⟩ = (w.alloc (.cells #[.int .i64 op, .int .i64 a, .int .i64 b] t)).cell? ⟨w.heap.size, q, none⟩ := fun q =>
    World.cell?_of_block (a := ⟨w.heap.size, q, none⟩) (hg.block w.heap.size (by simp) (fun e => by have := (ho.blk_lt _ e.symm).2; omega))
  exact ⟨(hkeep 0).trans V0.1, (hkeep 1).trans V0.2.1, (hkeep 2).trans V0.2.2.1⟩
theorem pair_keep {W W' : World} {g : Nat} {x y : Value} (hb : Below W.heap.size W W') (h1 : W.cell? ⟨g, 1, none⟩ = some x) (h2 : W.cell? ⟨g, 2, none⟩ = some y) : W'.cell? ⟨g, 1, none⟩ = some x ∧ W'.cell? ⟨g, 2, none⟩ = some y :=
  ⟨(hb.cell (p := ⟨g, 1, none⟩) (World.block_lt_of_cell? W _ h1)).trans h1, (hb.cell (p := ⟨g, 2, none⟩) (World.block_lt_of_cell? W _ h2)).trans h2⟩
theorem one8b (x : Int) : ∀ u ∈ (#[Value.int .u8 x] : Array Value).toList, u.oneCell' = true := by
  intro u hu
  simp only [List.mem_singleton] at hu
  subst hu
  rfl
theorem notOk_c (op a b : Int) (w : World) : Calls Tryd.prog 72 #[.agg #[.int .i64 op, .int .i64 a, .int .i64 b]] w fun e w' => e = .returned (.bool (!insOk (op, a, b))) ∧ Below w.heap.size w w' := by
  have HC := hide (fun w => iInsOk op a b w)
  obtain ⟨R, hR⟩ : ∃ R, insOk (op, a, b) = R := ⟨_, rfl⟩
  rw [hR] at HC ⊢
  clear hR
  have V0 := hide (var3_new w op a b 61)
  go_enter Tryd.func72, Tryd.ntmps72
  go_wp2_with fail
  refine (HC.out _).mono ?_
  rintro e w1 ⟨rfl, hb1⟩
  have B1 := hide (bel_step V0.out.2.2.2 hb1 V0.out.2.2.2.size)
  clear hb1
  go_wp2_with fail
  go_ret
  exact ⟨rfl, B1.out⟩
theorem indexFunc_c (A : Option Addr) (n c : Nat) (l : List Ins3) (w : World) (hr : Rd w w.heap.size 3 A n (insC l)) (hn : n ≤ 1048576) :
    Calls Tryd.prog 107 #[.slice A n c, .func (.func 72) #[] #[]] w fun e w' => (∃ r : Int, e = .returned (.int .i64 r) ∧ decide (r ≥ 0) = !allOk l) ∧ Below w.heap.size w w' := by
  have hn' : (n : Int) ≤ 1048576 := by omega
  have HR := hide hr
  have HL := hide (rd_ins hr)
  clear hr hn
  go_enter Tryd.func107, Tryd.ntmps107
  go_wp2_with fail
  go_loopw [8] (fun i wr => ∃ k : Nat, k ≤ n ∧ i = .int .i64 k ∧ Hid (∀ j : Nat, j < k → ∀ x, l[j]? = some x → insOk x = true) ∧ Hid (Below w.heap.size w wr)) (fun i _ => n - (intOf i).toNat)
  case atStart => exact ⟨0, Nat.zero_le _, rfl, hide (fun j hj => by omega), hide (Below.refl _ _)⟩
  case round =>
    obtain ⟨k, hk, rfl, HE, HB⟩ := hrel
    by_cases hlt : k < n
    · obtain ⟨b, off, rfl, x, y, z, hx, c0, c1, c2, hbb⟩ := rd_cell (wr := wr) HR.out k hlt (fun p hp => HB.out.cell hp)
      have hi0 : (0 : Int) ≤ k := by omega
      have hi1 : (k : Int) < n := by omega
      have HXk := hide hx
      clear hx
      have HC := hide (fun w => notOk_c x y z w)
      obtain ⟨R, hR⟩ : ∃ R, insOk (x, y, z) = R := ⟨_, rfl⟩
      rw [hR] at HC
      have HR2 := hide hR
      clear hR
      cases R
      · go_wp2_with fail
        refine (HC.out _).mono ?_
        rintro e w2 ⟨rfl, hb2⟩
        have HB2 := hide (bel_step HB.out hb2 HB.out.size)
        clear hb2
        go_wp2_with fail
        go_ret
        refine ⟨⟨k, rfl, ?_⟩, HB2.out⟩
        rw [allOk_no HXk.out HR2.out]
        exact decide_eq_true (by omega)
      · go_wp2_with fail
        refine (HC.out _).mono ?_
        rintro e w2 ⟨rfl, hb2⟩
        have HB2 := hide (bel_step HB.out hb2 HB.out.size)
        clear hb2
        go_wp2_with fail
        go_roundw
        case rel =>
          refine ⟨k + 1, by omega, by go_num, hide (fun j hj q hq => ?_), HB2⟩
          by_cases hjk : j < k
          · exact HE.out j hjk q hq
          · obtain rfl : j = k := by omega
            rw [HXk.out] at hq
            rw [← Option.some.inj hq]
            exact HR2.out
        case measure => simp [intOf]; omega
    · obtain rfl : k = n := by omega
      go_wp2_with fail
      go_ret
      refine ⟨⟨-1, rfl, ?_⟩, HB.out⟩
      rw [allOk_yes (fun j x hx => HE.out j (by have := (List.getElem?_eq_some_iff.1 hx).1; have := HL.out; omega) x hx)]
      rfl
set_option maxRecDepth 100000 in
theorem markInsS_c (A : Option Addr) (n c base : Nat) (xs : List Value) (k : Int) (w : World) (ho : Ow w base 61 3 A n c xs) (hn : n ≤ 1048576) (h0 : 0 ≤ k) (h1 : k ≤ 281474976710655) :
    Calls Tryd.prog 14 #[.slice A n c, .int .i64 k] w fun e w' => e = .returned (.int .i64 (k + 3 * n)) ∧ w.grownBy w' (blk A) := by
  have hn' : (n : Int) ≤ 1048576 := by omega
  have HO := hide ho
  clear ho hn
  go_enter Tryd.func14, Tryd.ntmps14
  go_wp2_with fail
  go_loopw [1, 5] (fun s i wr => ∃ (j : Nat), j ≤ n ∧ i = .int .i64 j ∧ s = .int .i64 (k + 3 * j) ∧ Hid (∃ ys, Ow wr base 61 3 A n c ys) ∧ Hid (w.grownBy wr (blk A))) (fun _ i _ => n - (intOf i).toNat)
  case atStart => exact ⟨0, Nat.zero_le _, rfl, by go_num, hide ⟨xs, HO.out⟩, hide (World.grownBy.refl _ _)⟩
  case round =>
    obtain ⟨j, hj, rfl, rfl, HY, HG⟩ := hrel
    obtain ⟨ys, hown⟩ := HY.out
    have H3 := hide hown
    clear hown HY
    by_cases hlt : j < n
    · obtain ⟨g, rfl, _, _⟩ := H3.out.form (by omega)
      have hj0 : (0 : Int) ≤ j := by omega
      have hj1 : (j : Int) < n := by omega
      have e0 := World.ownsRow.stored H3.out (j * 3) (.int .i64 (k + 3 * j))
      have e1 := World.ownsRow.stored e0.1 (j * 3 + 1) (.int .i64 (k + 3 * j + 1))
      have e2 := World.ownsRow.stored e1.1 (j * 3 + 2) (.int .i64 (k + 3 * j + 1 + 1))
      have hf0 : ∀ q, wr.frozen? ⟨g, q, none⟩ = false := fun q => World.ownsRow.frozenAt H3.out q
      obtain ⟨u0, hu0⟩ := own_cell H3.out (j * 3) (by omega)
      obtain ⟨u1, hu1⟩ := own_cell H3.out (j * 3 + 1) (by omega)
      obtain ⟨u2, hu2⟩ := own_cell H3.out (j * 3 + 2) (by omega)
      have HE := hide e2.1
      have HG2 := hide (grown_trans (grown_trans e0.2 e1.2) e2.2)
      clear e0 e1 e2
      go_wp2_with fail
      go_roundw
      case rel =>
        refine ⟨j + 1, by omega, by go_num, ?_, hide ⟨_, HE.out⟩, hide (grown_trans HG.out HG2.out)⟩
        congr 1
        push_cast
        omega
      case measure => simp [intOf]; omega
    · obtain rfl : j = n := by omega
      go_wp2_with fail
      go_ret
      exact ⟨rfl, HG.out⟩
end Go.Proofs.YtiinkfejdnfonaaDoor.Bb
