/- The bytes of instructions, in the program and in the reference: a contract each. -/
import Derived.Test.YtiinkfejdnfonaaGreatDoorInsS
import Derived.Test.YtiinkfejdnfonaaGreatDoorPutC
import Derived.Deep.RegionLaw
namespace Go.Proofs.YtiinkfejdnfonaaGreatDoor.Bb
open Go.RowKit Go.Proofs.YtiinkfejdnfonaaGreatDoor.Num Go.Proofs.YtiinkfejdnfonaaGreatDoor.NumC Go.Proofs.YtiinkfejdnfonaaGreatDoor.Mem Go.Proofs.YtiinkfejdnfonaaGreatDoor.Shape Go.Proofs.YtiinkfejdnfonaaGreatDoor.Body Go.Proofs.YtiinkfejdnfonaaGreatDoor.Ops Go.Proofs.YtiinkfejdnfonaaGreatDoor.Leb
set_option linter.unusedVariables false

/-- the bytes of an instruction -/
def tailB (k op a b : Int) : List Int :=
  if k = 1 then (if a = 1 then [127] else [64]) else if k = 2 then putU 5 (a % 4294967296) else if k = 3 then putU 5 (b % 4294967296) ++ putU 5 (a % 4294967296)
  else if k = 4 then putS 5 (wrap32 a) else if op = 63 ∨ op = 64 then [0] else []
def insB (i : Ins3) : List Int := i.1 % 256 :: tailB (kind i.1) i.1 i.2.1 i.2.2
def bodyB : List Ins3 → List Int
  | [] => []
  | i :: l => insB i ++ bodyB l
def allOk (l : List Ins3) : Bool := l.all insOk
theorem tailB_le (k op a b : Int) : (tailB k op a b).length ≤ 10 := by
  have h1 := putU_le 5 (a % 4294967296)
  have h2 := putU_le 5 (b % 4294967296)
  have h3 := putS_le 5 (wrap32 a)
  unfold tailB
  repeat' split
  all_goals first
    | (simp only [List.length_append, List.length_cons, List.length_nil]; omega)
    | omega
theorem insB_le (i : Ins3) : (insB i).length ≤ 11 := by
  have := tailB_le (kind i.1) i.1 i.2.1 i.2.2
  simp only [insB, List.length_cons]
  omega
theorem bodyB_le : ∀ l : List Ins3, (bodyB l).length ≤ 11 * l.length
  | [] => by simp [bodyB]
  | i :: l => by
    have := insB_le i
    have := bodyB_le l
    simp only [bodyB, List.length_append, List.length_cons]
    omega
theorem bodyB_app : ∀ l m : List Ins3, bodyB (l ++ m) = bodyB l ++ bodyB m
  | [], m => rfl
  | i :: l, m => by simp only [List.cons_append, bodyB, bodyB_app l m, List.append_assoc]
theorem tailB_byte (k op a b : Int) : ∀ x ∈ tailB k op a b, 0 ≤ x ∧ x ≤ 255 := by
  unfold tailB
  repeat' split
  · simp
  · simp
  · exact putU_byte 5 _ (by omega)
  · intro x hx
    rcases List.mem_append.1 hx with h | h
    · exact putU_byte 5 _ (by omega) x h
    · exact putU_byte 5 _ (by omega) x h
  · exact putS_byte 5 _
  · simp
  · simp
theorem take_more {l : List Ins3} {k : Nat} {x : Ins3} (h : l[k]? = some x) : bodyB (l.take (k + 1)) = bodyB (l.take k) ++ insB x := by
  obtain ⟨hk, rfl⟩ := List.getElem?_eq_some_iff.1 h
  rw [← List.take_append_getElem hk, bodyB_app]
  simp [bodyB]
theorem allOk_no {l : List Ins3} {k : Nat} {x : Ins3} (h : l[k]? = some x) (hx : insOk x = false) : allOk l = false := by
  unfold allOk
  rw [Bool.eq_false_iff]
  intro ha
  have := List.all_eq_true.1 ha x (List.mem_of_getElem? h)
  rw [hx] at this
  cases this
theorem allOk_yes {l : List Ins3} (h : ∀ j : Nat, ∀ x, l[j]? = some x → insOk x = true) : allOk l = true := by
  unfold allOk
  rw [List.all_eq_true]
  intro x hx
  obtain ⟨j, hj, he⟩ := List.getElem_of_mem hx
  exact h j x (by rw [List.getElem?_eq_getElem hj, he])
theorem tail1 {op a b : Int} (h : a = 1) : tailB 1 op a b = [127] := by unfold tailB; rw [if_pos rfl, if_pos h]
theorem tail1' {op a b : Int} (h : a ≠ 1) : tailB 1 op a b = [64] := by unfold tailB; rw [if_pos rfl, if_neg h]
theorem tail2 {op a b : Int} : tailB 2 op a b = putU 5 (a % 4294967296) := rfl
theorem tail3 {op a b : Int} : tailB 3 op a b = putU 5 (b % 4294967296) ++ putU 5 (a % 4294967296) := rfl
theorem tail4 {op a b : Int} : tailB 4 op a b = putS 5 (wrap32 a) := rfl
theorem tail0 {op a b : Int} (h : op = 63 ∨ op = 64) : tailB 0 op a b = [0] := by
  unfold tailB
  rw [if_neg (by omega), if_neg (by omega), if_neg (by omega), if_neg (by omega), if_pos h]
theorem tail0' {op a b : Int} (h : ¬ (op = 63 ∨ op = 64)) : tailB 0 op a b = [] := by
  unfold tailB
  rw [if_neg (by omega), if_neg (by omega), if_neg (by omega), if_neg (by omega), if_neg h]
theorem insB_eq {op a b k v : Int} {T : List Int} (hv : IntKind.u8.wrap op = v) (hk : kind op = k) (hT : tailB k op a b = T) : insB (op, a, b) = v :: T := by
  have h1 : op % 256 = v := by rw [← hv, IntKind.wrap_u8]
  show op % 256 :: tailB (kind op) op a b = v :: T
  rw [hk, hT, h1]
theorem fresh_up {w W1 w' : World} {L X : List Int} {N c : Nat} {A : Option Addr} (hb : Below w.heap.size w W1) (ho : Ow w' W1.heap.size 5 1 A N c (by8 X)) (hb2 : Below W1.heap.size W1 w') (hN : N = L.length) (hX : X = L) :
    Fresh 5 1 L.length (by8 L) w (.returned (.slice A N c)) w' := by
  subst hN; subst hX
  exact ⟨A, c, rfl, ho.base_le hb.size, bel_step hb hb2 hb.size⟩
theorem lit1 (W : World) (v : Int) : Ow (W.alloc (.cells #[.int .u8 v] 5)) W.heap.size 5 1 (some ⟨W.heap.size, 0, none⟩) 1 1 (by8 [v]) := World.ownsRow_lit W #[.int .u8 v] 1 (Nat.le_refl _) (by decide) rfl
theorem gr_all (w : World) (o : Obj) (row : Option Nat) : w.grownBy (w.alloc o) row := ⟨rfl, rfl, rfl, by simp, fun k hk _ => Below.heap_alloc w o k hk⟩
theorem keep3 {w w3 : World} {op a b : Int} {t : TypeId} {base e size n d : Nat} {B : Option Addr} {xs : List Value} (V0 : Var3 w op a b (w.alloc (.cells #[.int .i64 op, .int .i64 a, .int .i64 b] t))) (ho : Ow w base e size B n d xs) (hg : (w.alloc (.cells #[.int .i64 op, .int .i64 a, .int .i64 b] t)).grownBy w3 (blk B)) :
    w3.cell? ⟨w.heap.size, 0, none⟩ = some (.int .i64 op) ∧ w3.cell? ⟨w.heap.size, 1, none⟩ = some (.int .i64 a) ∧ w3.cell? ⟨w.heap.size, 2, none⟩ = some (.int .i64 b) := by
  have hkeep : ∀ q, w3.cell? ⟨w.heap.size, q, none⟩ = (w.alloc (.cells #[.int .i64 op, .int .i64 a, .int .i64 b] t)).cell? ⟨w.heap.size, q, none⟩ := fun q =>
    World.cell?_of_block (a := ⟨w.heap.size, q, none⟩) (hg.block w.heap.size (by simp) (fun e => by have := (ho.blk_lt _ e.symm).2; omega))
  exact ⟨(hkeep 0).trans V0.1, (hkeep 1).trans V0.2.1, (hkeep 2).trans V0.2.2.1⟩
theorem pair_keep {W W' : World} {g : Nat} {x y : Value} (hb : Below W.heap.size W W') (h1 : W.cell? ⟨g, 1, none⟩ = some x) (h2 : W.cell? ⟨g, 2, none⟩ = some y) : W'.cell? ⟨g, 1, none⟩ = some x ∧ W'.cell? ⟨g, 2, none⟩ = some y :=
  ⟨(hb.cell (p := ⟨g, 1, none⟩) (World.block_lt_of_cell? W _ h1)).trans h1, (hb.cell (p := ⟨g, 2, none⟩) (World.block_lt_of_cell? W _ h2)).trans h2⟩
theorem one8b (x : Int) : ∀ u ∈ (#[Value.int .u8 x] : Array Value).toList, u.oneCell' = true := by
  intro u hu
  simp only [List.mem_singleton] at hu
  subst hu
  rfl
theorem notOk_c (op a b : Int) (w : World) : Calls Tryz.prog 113 #[.agg #[.int .i64 op, .int .i64 a, .int .i64 b]] w fun e w' => e = .returned (.bool (!insOk (op, a, b))) ∧ Below w.heap.size w w' := by
  have HC := hide (fun w => iInsOk op a b w)
  obtain ⟨R, hR⟩ : ∃ R, insOk (op, a, b) = R := ⟨_, rfl⟩
  rw [hR] at HC ⊢
  clear hR
  have V0 := hide (var3_new w op a b 139)
  go_enter Tryz.func113, Tryz.ntmps113
  go_wp2_with fail
  refine (HC.out _).mono ?_
  rintro e w1 ⟨rfl, hb1⟩
  have B1 := hide (bel_step V0.out.2.2.2 hb1 V0.out.2.2.2.size)
  clear hb1
  go_wp2_with fail
  go_ret
  exact ⟨rfl, B1.out⟩
theorem indexFunc_c (A : Option Addr) (n c : Nat) (l : List Ins3) (w : World) (hr : Rd w w.heap.size 3 A n (insC l)) (hn : n ≤ 1048576) :
    Calls Tryz.prog 125 #[.slice A n c, .func (.func 113) #[] #[]] w fun e w' => (∃ r : Int, e = .returned (.int .i64 r) ∧ decide (r ≥ 0) = !allOk l) ∧ Below w.heap.size w w' := by
  have hn' : (n : Int) ≤ 1048576 := by omega
  have HR := hide hr
  have HL := hide (rd_ins hr)
  clear hr hn
  go_enter Tryz.func125, Tryz.ntmps125
  go_wp2_with fail
  go_loopw [8] (fun i wr => ∃ k : Nat, k ≤ n ∧ i = .int .i64 k ∧ Hid (∀ j : Nat, j < k → ∀ x, l[j]? = some x → insOk x = true) ∧ Hid (Below w.heap.size w wr)) (fun i _ => n - (intOf i).toNat)
  case atStart => exact ⟨0, Nat.zero_le _, rfl, hide (fun j hj => by omega), hide (Below.refl _ _)⟩
  case round =>
    obtain ⟨k, hk, rfl, HE, HB⟩ := hrel
    by_cases hlt : k < n
    · obtain ⟨b, off, rfl, x, y, z, hx, c0, c1, c2, hbb⟩ := rd_cell (wr := wr) HR.out k hlt (fun p hp => HB.out.cell hp)
      have hi0 : (0 : Int) ≤ k := by omega
      have hi1 : (k : Int) < n := by omega
      have HXk := hide hx
      clear hx
      have HC := hide (fun w => notOk_c x y z w)
      obtain ⟨R, hR⟩ : ∃ R, insOk (x, y, z) = R := ⟨_, rfl⟩
      rw [hR] at HC
      have HR2 := hide hR
      clear hR
      cases R
      · go_wp2_with fail
        refine (HC.out _).mono ?_
        rintro e w2 ⟨rfl, hb2⟩
        have HB2 := hide (bel_step HB.out hb2 HB.out.size)
        clear hb2
        go_wp2_with fail
        go_ret
        refine ⟨⟨k, rfl, ?_⟩, HB2.out⟩
        rw [allOk_no HXk.out HR2.out]
        exact decide_eq_true (by omega)
      · go_wp2_with fail
        refine (HC.out _).mono ?_
        rintro e w2 ⟨rfl, hb2⟩
        have HB2 := hide (bel_step HB.out hb2 HB.out.size)
        clear hb2
        go_wp2_with fail
        go_roundw
        case rel =>
          refine ⟨k + 1, by omega, by go_num, hide (fun j hj q hq => ?_), HB2⟩
          by_cases hjk : j < k
          · exact HE.out j hjk q hq
          · obtain rfl : j = k := by omega
            rw [HXk.out] at hq
            rw [← Option.some.inj hq]
            exact HR2.out
        case measure => simp [intOf]; omega
    · obtain rfl : k = n := by omega
      go_wp2_with fail
      go_ret
      refine ⟨⟨-1, rfl, ?_⟩, HB.out⟩
      rw [allOk_yes (fun j x hx => HE.out j (by have := (List.getElem?_eq_some_iff.1 hx).1; have := HL.out; omega) x hx)]
      rfl
set_option maxRecDepth 100000 in
set_option maxHeartbeats 600000 in
theorem insBytes_c (op a b : Int) (w : World) : Calls Tryz.prog 117 #[.agg #[.int .i64 op, .int .i64 a, .int .i64 b]] w (Fresh 5 1 (insB (op, a, b)).length (by8 (insB (op, a, b))) w) := by
  obtain ⟨v, hv⟩ : ∃ v, IntKind.u8.wrap op = v := ⟨_, rfl⟩
  obtain ⟨L, hL⟩ : ∃ L, insB (op, a, b) = L := ⟨_, rfl⟩
  rw [hL]
  have HL := hide hL
  have HV := hide hv
  have V0 := var3_new w op a b 139
  have O1 := lit1 (w.alloc (.cells #[.int .i64 op, .int .i64 a, .int .i64 b] 139)) v
  clear hL
  go_enter Tryz.func117, Tryz.ntmps117
  go_wp2_with fail
  have V1 := var3_bel V0 ((Below.refl _ _).alloc (Nat.le_refl _) (.cells #[.int .u8 v] 5))
  rw [show (w.alloc (.cells #[.int .i64 op, .int .i64 a, .int .i64 b] 139)).heap.size = w.heap.size + 1 by simp] at O1
  generalize (w.alloc (.cells #[.int .i64 op, .int .i64 a, .int .i64 b] 139)).alloc (.cells #[.int .u8 v] 5) = W1 at V1 O1 ⊢
  have HO := hide (show Ow W1 w.heap.size 5 1 (some ⟨w.heap.size + 1, 0, none⟩) 1 1 (by8 [v]) from Ow.base_le O1 (by omega))
  have HRd := hide (show Rd W1 W1.heap.size 1 (some ⟨w.heap.size + 1, 0, none⟩) 1 (by8 [v]) from HO.out.rd)
  obtain ⟨c0, c1, c2, hb1⟩ := V1
  have HB := hide hb1
  clear V0 O1 hb1 hv
  cases hbg : isBeg op
  · have HBg := hide hbg
    cases hix : isIdx op
    · have HI := hide hix
      cases hmm : isMem op
      · have HM := hide hmm
        by_cases h65 : op = 65
        · subst h65
          have hLe := HL.out.symm.trans (insB_eq (a := a) (b := b) HV.out rfl tail4)
          subst hLe
          clear hbg hix hmm
          go_wp2_with fail
          refine (ibeg_b _ _ _ HBg).mono ?_
          rintro e w' ⟨rfl, rfl⟩
          go_wp2_with fail
          refine (iidx_b _ _ _ HI).mono ?_
          rintro e w' ⟨rfl, rfl⟩
          go_wp2_with fail
          refine (imem_b _ _ _ HM).mono ?_
          rintro e w' ⟨rfl, rfl⟩
          go_wp2_with fail
          refine (PutC.iPutS _ 1 1 [v] a W1 HRd.out (by omega)).mono ?_
          rintro e w2 ⟨A2, d2, rfl, ho, hb⟩
          have HF := hide (fresh_up HB.out ho hb (L := _) (by simp; omega) rfl)
          clear ho hb
          go_wp2_with fail
          go_ret
          exact HF.out
        · have hk := kind_none hbg hix hmm h65
          have h65b : (op == 65) = false := by simpa using h65
          clear hbg hix hmm
          by_cases h63 : op = 63
          · subst h63
            have hLe := HL.out.symm.trans (insB_eq (a := a) (b := b) HV.out rfl (tail0 (.inl rfl)))
            subst hLe
            clear hk h65 h65b
            go_wp2_with fail
            refine (ibeg_b _ _ _ HBg).mono ?_
            rintro e w' ⟨rfl, rfl⟩
            go_wp2_with fail
            refine (iidx_b _ _ _ HI).mono ?_
            rintro e w' ⟨rfl, rfl⟩
            go_wp2_with fail
            refine (imem_b _ _ _ HM).mono ?_
            rintro e w' ⟨rfl, rfl⟩
            go_wp2_with (at_builtin; refine app1 rfl _ _ rfl rfl rfl E8 HO.out rfl (one8b _) (by omega) HB.out.size ?_; intro B3 d3 w3 ho3 hg3 hl3)
            go_ret
            refine ⟨B3, d3, rfl, ?_, bel_grown HB.out hg3 HB.out.size (fun g hg => (HO.out.blk_lt g hg).1)⟩
            exact ho3
          · by_cases h64 : op = 64
            · subst h64
              have hLe := HL.out.symm.trans (insB_eq (a := a) (b := b) HV.out rfl (tail0 (.inr rfl)))
              subst hLe
              clear hk h65 h65b h63
              go_wp2_with fail
              refine (ibeg_b _ _ _ HBg).mono ?_
              rintro e w' ⟨rfl, rfl⟩
              go_wp2_with fail
              refine (iidx_b _ _ _ HI).mono ?_
              rintro e w' ⟨rfl, rfl⟩
              go_wp2_with fail
              refine (imem_b _ _ _ HM).mono ?_
              rintro e w' ⟨rfl, rfl⟩
              go_wp2_with (at_builtin; refine app1 rfl _ _ rfl rfl rfl E8 HO.out rfl (one8b _) (by omega) HB.out.size ?_; intro B3 d3 w3 ho3 hg3 hl3)
              go_ret
              refine ⟨B3, d3, rfl, ?_, bel_grown HB.out hg3 HB.out.size (fun g hg => (HO.out.blk_lt g hg).1)⟩
              exact ho3
            · have hLe := HL.out.symm.trans (insB_eq (a := a) (b := b) HV.out hk (tail0' (by omega)))
              subst hLe
              have h63b : (op == 63) = false := by simpa using h63
              have h64b : (op == 64) = false := by simpa using h64
              clear hk h65 h63 h64
              go_wp2_with fail
              refine (ibeg_b _ _ _ HBg).mono ?_
              rintro e w' ⟨rfl, rfl⟩
              go_wp2_with fail
              refine (iidx_b _ _ _ HI).mono ?_
              rintro e w' ⟨rfl, rfl⟩
              go_wp2_with fail
              refine (imem_b _ _ _ HM).mono ?_
              rintro e w' ⟨rfl, rfl⟩
              go_wp2_with fail
              go_ret
              refine ⟨_, _, rfl, ?_, HB.out⟩
              exact HO.out
      · have HM := hide hmm
        have hLe := HL.out.symm.trans (insB_eq (a := a) (b := b) HV.out (kind_mem hmm).1 tail3)
        subst hLe
        clear hbg hix hmm
        go_wp2_with fail
        refine (ibeg_b _ _ _ HBg).mono ?_
        rintro e w' ⟨rfl, rfl⟩
        go_wp2_with fail
        refine (iidx_b _ _ _ HI).mono ?_
        rintro e w' ⟨rfl, rfl⟩
        go_wp2_with fail
        refine (imem_b _ _ _ HM).mono ?_
        rintro e w' ⟨rfl, rfl⟩
        go_wp2_with fail
        have HRd1 := hide (show Rd W1.drew W1.drew.heap.size 1 (some ⟨w.heap.size + 1, 0, none⟩) 1 (by8 [v]) from HRd.out)
        have HBd := hide (bel_drewN HB.out 1)
        have C1 := hide (PutC.iPutU (some ⟨w.heap.size + 1, 0, none⟩) 1 1 [v] b W1.drew HRd1.out (by omega))
        have hPl := putU_le 5 (b % 4294967296)
        obtain ⟨P, hP⟩ : ∃ P, putU 5 (b % 4294967296) = P := ⟨_, rfl⟩
        obtain ⟨Q, hQ⟩ : ∃ Q, putU 5 (a % 4294967296) = Q := ⟨_, rfl⟩
        obtain ⟨N, hN⟩ : ∃ N, 1 + P.length = N := ⟨_, rfl⟩
        rw [hP] at C1 hPl
        rw [hN] at C1
        have C2 := hide (fun A c w hr => PutC.iPutU A N c ([v] ++ P) a w hr (by omega))
        rw [hQ] at C2
        have HLn := hide (show N + Q.length = (v :: (P ++ Q)).length by simp; omega)
        have HPQ := hide (And.intro hP hQ)
        clear hP hQ hN hPl HL
        go_region_held (fun W => W.cell? ⟨w.heap.size, 1, none⟩ = some (.int .i64 a) ∧ W.cell? ⟨w.heap.size, 2, none⟩ = some (.int .i64 b)) (first | exact ⟨c1, c2⟩ | assumption) (first
          | (go_at_call 46
             refine (C2.out _ _ w2 HO2.out.rd).mono ?_
             rintro e w3 ⟨A3, d3, rfl, ho, hb⟩
             have c13 := pair_keep hb c12.1 c12.2
             have HF := hide (fresh_up (bel_step HBd.out HB2.out HBd.out.size) ho hb (L := v :: (P ++ Q)) HLn.out (by simp))
             clear ho hb)
          | (go_at_call 46
             refine C1.out.mono ?_
             rintro e w2 ⟨A2, d2, rfl, ho, hb⟩
             have c12 := pair_keep hb c1 c2
             have HO2 := hide ho
             have HB2 := hide hb
             clear ho hb))
        go_wp2_with fail
        go_ret
        obtain ⟨e1, e2⟩ := HPQ.out
        subst e1; subst e2
        exact HF.out
    · have HI := hide hix
      have hLe := HL.out.symm.trans (insB_eq (a := a) (b := b) HV.out (kind_idx hix).1 tail2)
      subst hLe
      clear hbg hix
      go_wp2_with fail
      refine (ibeg_b _ _ _ HBg).mono ?_
      rintro e w' ⟨rfl, rfl⟩
      go_wp2_with fail
      refine (iidx_b _ _ _ HI).mono ?_
      rintro e w' ⟨rfl, rfl⟩
      go_wp2_with fail
      refine (PutC.iPutU _ 1 1 [v] a W1 HRd.out (by omega)).mono ?_
      rintro e w2 ⟨A2, d2, rfl, ho, hb⟩
      have HF := hide (fresh_up HB.out ho hb (L := _) (by simp; omega) rfl)
      clear ho hb
      go_wp2_with fail
      go_ret
      exact HF.out
  · have HBg := hide hbg
    by_cases h1 : a = 1
    · have hLe := HL.out.symm.trans (insB_eq (a := a) (b := b) HV.out (kind_beg hbg) (tail1 h1))
      subst hLe
      subst h1
      clear hbg
      go_wp2_with fail
      refine (ibeg_b _ _ _ HBg).mono ?_
      rintro e w' ⟨rfl, rfl⟩
      go_wp2_with (at_builtin; refine app1 rfl _ _ rfl rfl rfl E8 HO.out rfl (one8b _) (by omega) HB.out.size ?_; intro B3 d3 w3 ho3 hg3 hl3)
      go_ret
      refine ⟨B3, d3, rfl, ?_, bel_grown HB.out hg3 HB.out.size (fun g hg => (HO.out.blk_lt g hg).1)⟩
      exact ho3
    · have hLe := HL.out.symm.trans (insB_eq (a := a) (b := b) HV.out (kind_beg hbg) (tail1' h1))
      subst hLe
      have h1b : (a == 1) = false := by simpa using h1
      clear hbg h1
      go_wp2_with fail
      refine (ibeg_b _ _ _ HBg).mono ?_
      rintro e w' ⟨rfl, rfl⟩
      go_wp2_with (at_builtin; refine app1 rfl _ _ rfl rfl rfl E8 HO.out rfl (one8b _) (by omega) HB.out.size ?_; intro B3 d3 w3 ho3 hg3 hl3)
      go_ret
      refine ⟨B3, d3, rfl, ?_, bel_grown HB.out hg3 HB.out.size (fun g hg => (HO.out.blk_lt g hg).1)⟩
      exact ho3
theorem gr_bel' {w0 w w' : World} {row : Option Nat} (h : w0.grownBy w row) (hb : Below w.heap.size w w') : w0.grownBy w' row :=
  ⟨hb.os.trans h.os, hb.tape.trans h.tape, hb.output.trans h.output, Nat.le_trans h.size hb.size, fun k hk hne => (hb.block k (Nat.lt_of_lt_of_le hk h.size)).trans (h.block k hk hne)⟩
theorem gr_new' {w0 w w' : World} {r row : Option Nat} (h : w0.grownBy w r) (hg : w.grownBy w' row) (hr : ∀ b, row = some b → w0.heap.size ≤ b ∨ r = some b) : w0.grownBy w' r :=
  ⟨hg.os.trans h.os, hg.tape.trans h.tape, hg.output.trans h.output, Nat.le_trans h.size hg.size, fun k hk hne => (hg.block k (Nat.lt_of_lt_of_le hk h.size) (fun e => by rcases hr k e.symm with h1 | h1; omega; exact hne h1.symm)).trans (h.block k hk hne)⟩
/-- what the reference's writer hands back -/
def Wrote (base n : Nat) (L X : List Int) (B : Option Addr) (w : World) (e : Ending) (w' : World) : Prop :=
  ∃ B' d', e = .returned (.slice B' (n + L.length) d') ∧ Ow w' base 5 1 B' (n + L.length) d' (by8 (X ++ L)) ∧ w.grownBy w' (blk B)
set_option maxRecDepth 100000 in
theorem put_up {base n N c : Nat} {L X F : List Int} {A B : Option Addr} {w w3 w' : World} (ho : Ow w' w3.heap.size 5 1 A N c (by8 F)) (hb : base ≤ w3.heap.size) (hN : N = n + L.length) (hF : F = X ++ L) (hg : w.grownBy w' (blk B)) :
    Wrote base n L X B w (.returned (.slice A N c)) w' := by
  subst hN; subst hF
  exact ⟨A, c, rfl, ho.base_le hb, hg⟩
set_option maxRecDepth 100000 in
set_option maxHeartbeats 600000 in
theorem l04Ins_c (B : Option Addr) (n d base : Nat) (l : List Int) (op a b : Int) (w : World) (ho : Ow w base 5 1 B n d (by8 l)) (hn : n ≤ 100000000) (hb : base ≤ w.heap.size) :
    Calls Tryz.prog 108 #[.slice B n d, .agg #[.int .i64 op, .int .i64 a, .int .i64 b]] w (Wrote base n (insB (op, a, b)) l B w) := by
  obtain ⟨v, hv⟩ : ∃ v, IntKind.u8.wrap op = v := ⟨_, rfl⟩
  obtain ⟨L, hL⟩ : ∃ L, insB (op, a, b) = L := ⟨_, rfl⟩
  rw [hL]
  have HL := hide hL
  have HV := hide hv
  have HO := hide ho
  have V0 := var3_new w op a b 139
  have hnn : (n : Int) ≤ 100000000 := by omega
  clear hL ho
  go_enter Tryz.func108, Tryz.ntmps108
  go_wp2_with (at_builtin; refine app1x rfl _ _ rfl rfl rfl (by simp) E8 (World.ownsRow.alloc HO.out _) rfl (one8b _) (by omega) (by simp; omega) ?_; intro B3 d3 w3 ho3 hg3 hl3; obtain ⟨c0, c1, c2⟩ := keep3 V0 HO.out hg3)
  have hlt3 : w.heap.size < w3.heap.size := by have := hg3.size; simp at this; omega
  have HO3 := hide (show Ow w3 base 5 1 B3 (n + 1) d3 (by8 (l ++ [v])) by simpa [by8] using ho3)
  have HG3 := hide (show w.grownBy w3 (blk B) from grown_trans (gr_all w _ _) hg3)
  have HB3 := hide (show ∀ q, blk B3 = some q → w.heap.size ≤ q ∨ blk B = some q from fun q hq => by
    rcases hl3 with h | ⟨g, h, hge⟩
    · exact .inr (h ▸ hq)
    · rw [h] at hq; injection hq with hq; subst hq; exact .inl (by simp at hge; omega))
  have hbase3 : base ≤ w3.heap.size := by omega
  clear ho3 hg3 hl3 V0 hv
  have hkb := kind_bd op
  obtain ⟨k, hk⟩ : ∃ k, kind op = k := ⟨_, rfl⟩
  have HK := hide hk
  rw [hk] at hkb
  clear hk
  rcases (by omega : k = 1 ∨ k = 2 ∨ k = 3 ∨ k = 4 ∨ k = 0) with rfl | rfl | rfl | rfl | rfl
  · by_cases h1 : a = 1
    · have hLe := HL.out.symm.trans (insB_eq (a := a) (b := b) HV.out HK.out (tail1 h1))
      subst hLe
      subst h1
      refine (skind_b _ _ _ HK).mono ?_
      rintro e w' ⟨rfl, rfl⟩
      go_wp2_with (at_builtin; refine app1 rfl _ _ rfl rfl rfl E8 HO3.out rfl (one8b _) (by omega) hbase3 ?_; intro B5 d5 w5 ho5 hg5 hl5)
      go_ret
      refine ⟨B5, d5, rfl, ?_, gr_new' HG3.out hg5 HB3.out⟩
      simpa [by8] using ho5
    · have hLe := HL.out.symm.trans (insB_eq (a := a) (b := b) HV.out HK.out (tail1' h1))
      subst hLe
      have h1b : (a == 1) = false := by simpa using h1
      clear h1
      refine (skind_b _ _ _ HK).mono ?_
      rintro e w' ⟨rfl, rfl⟩
      go_wp2_with (at_builtin; refine app1 rfl _ _ rfl rfl rfl E8 HO3.out rfl (one8b _) (by omega) hbase3 ?_; intro B5 d5 w5 ho5 hg5 hl5)
      go_ret
      refine ⟨B5, d5, rfl, ?_, gr_new' HG3.out hg5 HB3.out⟩
      simpa [by8] using ho5
  · have hLe := HL.out.symm.trans (insB_eq (a := a) (b := b) HV.out HK.out tail2)
    subst hLe
    refine (skind_b _ _ _ HK).mono ?_
    rintro e w' ⟨rfl, rfl⟩
    go_wp2_with fail
    refine (PutC.sPutU B3 (n + 1) d3 (l ++ [v]) a w3 HO3.out.rd (by omega)).mono ?_
    rintro e w5 ⟨A5, d5, rfl, ho5, hb5⟩
    have HF := hide (put_up (n := n) (L := v :: putU 5 (a % 4294967296)) (X := l) ho5 hbase3 (by simp; omega) (by simp) (gr_bel' HG3.out hb5))
    clear ho5 hb5
    go_wp2_with fail
    go_ret
    exact HF.out
  · have hLe := HL.out.symm.trans (insB_eq (a := a) (b := b) HV.out HK.out tail3)
    subst hLe
    refine (skind_b _ _ _ HK).mono ?_
    rintro e w' ⟨rfl, rfl⟩
    go_wp2_with fail
    have HR3 := hide (show Rd w3.drew w3.drew.heap.size 1 B3 (n + 1) (by8 (l ++ [v])) from HO3.out.rd)
    have HG3d := hide (show w.grownBy w3.drew (blk B) from ⟨HG3.out.os, HG3.out.tape, HG3.out.output, HG3.out.size, HG3.out.block⟩)
    have C1 := hide (PutC.sPutU B3 (n + 1) d3 (l ++ [v]) b w3.drew HR3.out (by omega))
    have hPl := putU_le 5 (b % 4294967296)
    obtain ⟨P, hP⟩ : ∃ P, putU 5 (b % 4294967296) = P := ⟨_, rfl⟩
    obtain ⟨Q, hQ⟩ : ∃ Q, putU 5 (a % 4294967296) = Q := ⟨_, rfl⟩
    obtain ⟨N, hN⟩ : ∃ N, n + 1 + P.length = N := ⟨_, rfl⟩
    rw [hP] at C1 hPl
    rw [hN] at C1
    have C2 := hide (fun A c w hr => PutC.sPutU A N c (l ++ [v] ++ P) a w hr (by omega))
    rw [hQ] at C2
    have HLn := hide (show N + Q.length = n + (v :: (P ++ Q)).length by simp; omega)
    have HPQ := hide (And.intro hP hQ)
    clear hP hQ hN hPl HL
    go_region_held (fun W => W.cell? ⟨w.heap.size, 1, none⟩ = some (.int .i64 a) ∧ W.cell? ⟨w.heap.size, 2, none⟩ = some (.int .i64 b)) (first | exact ⟨c1, c2⟩ | assumption) (first
      | (go_at_call 77
         refine (C2.out _ _ w5 HO5.out.rd).mono ?_
         rintro e w6 ⟨A6, d6, rfl, ho6, hb6⟩
         have c13 := pair_keep hb6 c12.1 c12.2
         have HF := hide (put_up (n := n) (L := v :: (P ++ Q)) (X := l) ho6 hs5 HLn.out (by simp) (gr_bel' HG5.out hb6))
         clear ho6 hb6)
      | (go_at_call 77
         refine C1.out.mono ?_
         rintro e w5 ⟨A5, d5, rfl, ho5, hb5⟩
         have c12 := pair_keep (W := w3.drew) hb5 c1 c2
         have HO5 := hide ho5
         have HG5 := hide (gr_bel' HG3d.out hb5)
         have hs5 : base ≤ w5.heap.size := Nat.le_trans hbase3 hb5.size
         clear ho5 hb5))
    go_wp2_with fail
    go_ret
    obtain ⟨e1, e2⟩ := HPQ.out
    subst e1; subst e2
    exact HF.out
  · have hLe := HL.out.symm.trans (insB_eq (a := a) (b := b) HV.out HK.out tail4)
    subst hLe
    refine (skind_b _ _ _ HK).mono ?_
    rintro e w' ⟨rfl, rfl⟩
    go_wp2_with fail
    refine (PutC.sPutS B3 (n + 1) d3 (l ++ [v]) a w3 HO3.out.rd (by omega)).mono ?_
    rintro e w5 ⟨A5, d5, rfl, ho5, hb5⟩
    have HF := hide (put_up (n := n) (L := v :: putS 5 (wrap32 a)) (X := l) ho5 hbase3 (by simp; omega) (by simp) (gr_bel' HG3.out hb5))
    clear ho5 hb5
    go_wp2_with fail
    go_ret
    exact HF.out
  · by_cases h63 : op = 63
    · subst h63
      have hLe := HL.out.symm.trans (insB_eq (a := a) (b := b) HV.out HK.out (tail0 (.inl rfl)))
      subst hLe
      refine (skind_b _ _ _ HK).mono ?_
      rintro e w' ⟨rfl, rfl⟩
      go_wp2_with (at_builtin; refine app1 rfl _ _ rfl rfl rfl E8 HO3.out rfl (one8b _) (by omega) hbase3 ?_; intro B5 d5 w5 ho5 hg5 hl5)
      go_ret
      refine ⟨B5, d5, rfl, ?_, gr_new' HG3.out hg5 HB3.out⟩
      simpa [by8] using ho5
    · by_cases h64 : op = 64
      · subst h64
        have hLe := HL.out.symm.trans (insB_eq (a := a) (b := b) HV.out HK.out (tail0 (.inr rfl)))
        subst hLe
        clear h63
        refine (skind_b _ _ _ HK).mono ?_
        rintro e w' ⟨rfl, rfl⟩
        go_wp2_with (at_builtin; refine app1 rfl _ _ rfl rfl rfl E8 HO3.out rfl (one8b _) (by omega) hbase3 ?_; intro B5 d5 w5 ho5 hg5 hl5)
        go_ret
        refine ⟨B5, d5, rfl, ?_, gr_new' HG3.out hg5 HB3.out⟩
        simpa [by8] using ho5
      · have hLe := HL.out.symm.trans (insB_eq (a := a) (b := b) HV.out HK.out (tail0' (by omega)))
        subst hLe
        have h63b : (op == 63) = false := by simpa using h63
        have h64b : (op == 64) = false := by simpa using h64
        clear h63 h64
        refine (skind_b _ _ _ HK).mono ?_
        rintro e w' ⟨rfl, rfl⟩
        go_wp2_with fail
        go_ret
        refine ⟨B3, d3, rfl, ?_, HG3.out⟩
        exact HO3.out
set_option maxRecDepth 100000 in
theorem markInsS_c (A : Option Addr) (n c base : Nat) (xs : List Value) (k : Int) (w : World) (ho : Ow w base 139 3 A n c xs) (hn : n ≤ 1048576) (h0 : 0 ≤ k) (h1 : k ≤ 281474976710655) :
    Calls Tryz.prog 101 #[.slice A n c, .int .i64 k] w fun e w' => e = .returned (.int .i64 (k + 3 * n)) ∧ w.grownBy w' (blk A) := by
  have hn' : (n : Int) ≤ 1048576 := by omega
  have HO := hide ho
  clear ho hn
  go_enter Tryz.func101, Tryz.ntmps101
  go_wp2_with fail
  go_loopw [1, 5] (fun s i wr => ∃ (j : Nat), j ≤ n ∧ i = .int .i64 j ∧ s = .int .i64 (k + 3 * j) ∧ Hid (∃ ys, Ow wr base 139 3 A n c ys) ∧ Hid (w.grownBy wr (blk A))) (fun _ i _ => n - (intOf i).toNat)
  case atStart => exact ⟨0, Nat.zero_le _, rfl, by go_num, hide ⟨xs, HO.out⟩, hide (World.grownBy.refl _ _)⟩
  case round =>
    obtain ⟨j, hj, rfl, rfl, HY, HG⟩ := hrel
    obtain ⟨ys, hown⟩ := HY.out
    have H3 := hide hown
    clear hown HY
    by_cases hlt : j < n
    · obtain ⟨g, rfl, _, _⟩ := H3.out.form (by omega)
      have hj0 : (0 : Int) ≤ j := by omega
      have hj1 : (j : Int) < n := by omega
      have e0 := World.ownsRow.stored H3.out (j * 3) (.int .i64 (k + 3 * j))
      have e1 := World.ownsRow.stored e0.1 (j * 3 + 1) (.int .i64 (k + 3 * j + 1))
      have e2 := World.ownsRow.stored e1.1 (j * 3 + 2) (.int .i64 (k + 3 * j + 1 + 1))
      have hf0 : ∀ q, wr.frozen? ⟨g, q, none⟩ = false := fun q => World.ownsRow.frozenAt H3.out q
      obtain ⟨u0, hu0⟩ := own_cell H3.out (j * 3) (by omega)
      obtain ⟨u1, hu1⟩ := own_cell H3.out (j * 3 + 1) (by omega)
      obtain ⟨u2, hu2⟩ := own_cell H3.out (j * 3 + 2) (by omega)
      have HE := hide e2.1
      have HG2 := hide (grown_trans (grown_trans e0.2 e1.2) e2.2)
      clear e0 e1 e2
      go_wp2_with fail
      go_roundw
      case rel =>
        refine ⟨j + 1, by omega, by go_num, ?_, hide ⟨_, HE.out⟩, hide (grown_trans HG.out HG2.out)⟩
        congr 1
        push_cast
        omega
      case measure => simp [intOf]; omega
    · obtain rfl : j = n := by omega
      go_wp2_with fail
      go_ret
      exact ⟨rfl, HG.out⟩
end Go.Proofs.YtiinkfejdnfonaaGreatDoor.Bb
