/- The law on ones and the zeros at the ends, walked by the contracts of what it calls. -/
import Derived.Test.YticikmjelagafaaDoorDrawC
import Derived.Test.YticikmjelagafaaDoorBitC
import Derived.Test.YticikmjelagafaaDoorPopC
import Derived.Test.YticikmjelagafaaDoorCtzL
import Derived.Test.YticikmjelagafaaDoorOnes
import Derived.Test.YticikmjelagafaaDoorOpen
namespace Go.Proofs.YticikmjelagafaaDoor
open Go.RowKit Go.Proofs.YticikmjelagafaaDoor.Num Go.Proofs.YticikmjelagafaaDoor.NumC Go.Proofs.YticikmjelagafaaDoor.BitC Go.Proofs.YticikmjelagafaaDoor.Bit Go.Proofs.YticikmjelagafaaDoor.Mem Go.Proofs.YticikmjelagafaaDoor.Draw Go.Proofs.YticikmjelagafaaDoor.Pop Go.Proofs.YticikmjelagafaaDoor.PopC Go.Proofs.YticikmjelagafaaDoor.Ctz Go.Proofs.YticikmjelagafaaDoor.Ones
set_option linter.unusedVariables false

theorem tab_below {g B : Nat} {tab : List Nat} {w w' : World} (h : TabAt g tab w) (hb : Below B w w') (hg : g < B) : TabAt g tab w' := by
  intro j hj
  rw [← h j hj]
  unfold World.cell?
  rw [hb.block g hg]
theorem fnOnes_long (A : Option Addr) (n c : Nat) (w : World) (hn : 1048576 < n) (hm : n ≤ 9223372036854775807) : Calls Tryd.prog 6 #[.slice A n c] w fun e w' => e = .returned (.bool true) ∧ Below w.heap.size w w' := by
  have hn' : (1048576 : Int) < n := by omega
  clear hn
  go_enter Tryd.func6, Tryd.ntmps6
  go_wp2_with fail
  go_ret
  exact ⟨rfl, Below.refl _ _⟩
set_option maxRecDepth 100000 in
theorem fnOnes_walk (A0 : Option Addr) (n0 c0 : Nat) (bs0 : List Int) (w : World) (w0 : IsNums .u8 w A0 n0 c0 bs0) (hL : laidMetH Tryd.prog Rows.fnOnesRow.laid w) : Calls Tryd.prog 6 #[.slice A0 n0 c0] w fun e w' => e = .returned (.bool true) ∧ Below w.heap.size w w' := by
  have HT := hide (ctz_tab (rest := []) hL)
  have HG := hide (show 0 < w.heap.size from by
    have := HT.out 0 (by decide)
    unfold World.cell? at this
    rcases Nat.lt_or_ge 0 w.heap.size with h | h
    · exact h
    · rw [Array.getElem?_eq_none h] at this; simp at this)
  have hr := w0.rd
  have hx : ∀ x ∈ bs0, 0 ≤ x ∧ x ≤ 255 := fun x h => u8_of_wf (w0.wf x h)
  have hm : n0 ≤ 9223372036854775807 := by have := w0.max; have := w0.le; unfold maxLen at *; omega
  by_cases hn : 1048576 < n0
  · exact fnOnes_long A0 n0 c0 w hn hm
  have hn' : (n0 : Int) ≤ 1048576 := by omega
  have HN := hide (show n0 ≤ 1048576 by omega)
  clear hn hm w0 hL
  have HR := hide hr
  have HX := hide hx
  clear hr hx
  go_enter Tryd.func6, Tryd.ntmps6
  go_wp2_with fail
  refine (DrawPop_c A0 n0 c0 bs0 w HR.out HN.out HX.out).mono ?_
  rintro e w1 ⟨n, rfl, _, _, hb1⟩
  have HT1 := hide (tab_below HT.out hb1 HG.out)
  obtain ⟨p, hp⟩ : ∃ p : Int, (Lib.popAux 32 (pl n) : Int) = p := ⟨_, rfl⟩
  obtain ⟨l, hl⟩ : ∃ l : Int, (Lib.bitLen (pl n) : Int) = l := ⟨_, rfl⟩
  obtain ⟨c, hc⟩ : ∃ c : Int, (Lib.ctz 32 (pl n) : Int) = c := ⟨_, rfl⟩
  have cI : Hid (∀ w, Calls Tryd.prog 19 #[.int .i64 n] w fun e w' => e = .returned (.int .i64 p) ∧ ∃ k, w' = w.drewN k) := hide (fun w => hp ▸ iPop n w)
  have cS : Hid (∀ w, Calls Tryd.prog 20 #[.int .i64 n] w fun e w' => e = .returned (.int .i64 p) ∧ w = w') := hide (fun w => hp ▸ sPop n w)
  have cL : Hid (∀ w, Calls Tryd.prog 21 #[.int .i64 n] w fun e w' => e = .returned (.int .i64 (32 - l)) ∧ w = w') := hide (fun w => hl ▸ iClz n w)
  have cC : Hid (∀ w, TabAt 0 Lib.deBruijn32tab w → Calls Tryd.prog 22 #[.int .i64 n] w fun e w' => e = .returned (.int .i64 c) ∧ w = w') := hide (fun w h => hc ▸ iCtz n w h)
  by_cases hz : pl n = 0
  · obtain ⟨z1, z2, z3⟩ := ones_nil n hz
    rw [hp] at z1
    rw [hl] at z2
    rw [hc] at z3
    have ez : n % 4294967296 = 0 := by rw [← pl_cast, hz]; rfl
    subst z1; subst z2; subst z3
    clear hp hl hc hz
    go_wp2_with fail
    refine (cI.out _).mono ?_
    rintro e w2 ⟨rfl, k2, rfl⟩
    go_wp2_with fail
    refine (cS.out _).mono ?_
    rintro e w3 ⟨rfl, rfl⟩
    go_wp2_with fail
    refine (cL.out _).mono ?_
    rintro e w3 ⟨rfl, rfl⟩
    go_wp2_with fail
    refine (cC.out (w1.drewN k2) HT1.out).mono ?_
    rintro e w3 ⟨rfl, rfl⟩
    go_wp2_with (go_at_call 23; refine (iPlain _ _).mono ?_; rintro e w' ⟨rfl, rfl⟩)
    go_ret
    exact ⟨rfl, bel_drewN hb1 k2⟩
  · have ez : (n % 4294967296 == 0) = false := by
      rw [beq_eq_false_iff_ne, ← pl_cast]
      omega
    obtain ⟨y1, y2, y3, y4, y5, y6⟩ := ones_ends n hz
    have t1 := ones_top n hz
    have t2 := ones_low n hz
    have t3 := ones_not n
    rw [hp, hl, hc] at y1
    rw [hl] at y2 y3 t1
    rw [hc] at y4 y5 t2
    rw [hp] at y6 t3
    obtain ⟨v3, hv3⟩ : ∃ v, bitsV 3 n (-1) = v := ⟨_, rfl⟩
    obtain ⟨v6, hv6⟩ : ∃ v, bitsV 6 n c = v := ⟨_, rfl⟩
    rw [hv3] at t3
    rw [hv6] at t2
    obtain ⟨q, hq⟩ : ∃ q : Int, (Lib.popAux 32 (pl v3) : Int) = q := ⟨_, rfl⟩
    have cQ : Hid (∀ w, Calls Tryd.prog 19 #[.int .i64 v3] w fun e w' => e = .returned (.int .i64 q) ∧ ∃ k, w' = w.drewN k) := hide (fun w => hq ▸ iPop v3 w)
    have c3 : Hid (∀ w, Calls Tryd.prog 24 #[.int .i64 3, .int .i64 n, .int .i64 (-1)] w fun e w' => e = .returned (.int .i64 v3) ∧ w = w') := hide (fun w => hv3 ▸ iBits3 n (-1) w)
    have c6 : Hid (∀ w, Calls Tryd.prog 24 #[.int .i64 6, .int .i64 n, .int .i64 c] w fun e w' => e = .returned (.int .i64 v6) ∧ w = w') := hide (fun w => hv6 ▸ iBits6 n c w)
    have ct : Hid (∀ w, Calls Tryd.prog 24 #[.int .i64 6, .int .i64 n, .int .i64 (31 - (32 - l))] w fun e w' => e = .returned (.int .i64 1) ∧ w = w') := hide (fun w => t1 ▸ iBits6 n (31 - (32 - l)) w)
    have c1 : Hid (∀ w, Calls Tryd.prog 24 #[.int .i64 1, .int .i64 v6, .int .i64 1] w fun e w' => e = .returned (.int .i64 1) ∧ w = w') := hide (fun w => (iBits1 v6 1 w).mono fun e w' h => by rw [t2] at h; exact h)
    rw [hq] at t3
    have q0 : q = 32 - p := by omega
    clear hp hl hc hz t1 t2 hv3 hv6 hq t3
    subst q0
    go_wp2_with fail
    refine (cI.out _).mono ?_
    rintro e w2 ⟨rfl, k2, rfl⟩
    go_wp2_with fail
    refine (cS.out _).mono ?_
    rintro e w3 ⟨rfl, rfl⟩
    go_wp2_with fail
    refine (cL.out _).mono ?_
    rintro e w3 ⟨rfl, rfl⟩
    go_wp2_with fail
    refine (cC.out (w1.drewN k2) HT1.out).mono ?_
    rintro e w3 ⟨rfl, rfl⟩
    go_wp2_with fail
    refine (iPlain _ _).mono ?_
    rintro e w3 ⟨rfl, rfl⟩
    go_wp2_with fail
    refine (c3.out _).mono ?_
    rintro e w3 ⟨rfl, rfl⟩
    go_wp2_with fail
    refine (cQ.out _).mono ?_
    rintro e w3 ⟨rfl, k3, rfl⟩
    go_wp2_with fail
    refine (ct.out _).mono ?_
    rintro e w3 ⟨rfl, rfl⟩
    go_wp2_with fail
    refine (c6.out _).mono ?_
    rintro e w3 ⟨rfl, rfl⟩
    go_wp2_with fail
    refine (c1.out _).mono ?_
    rintro e w3 ⟨rfl, rfl⟩
    go_wp2_with fail
    go_ret
    exact ⟨rfl, bel_drewN hb1 (k2 + k3)⟩
end Go.Proofs.YticikmjelagafaaDoor
