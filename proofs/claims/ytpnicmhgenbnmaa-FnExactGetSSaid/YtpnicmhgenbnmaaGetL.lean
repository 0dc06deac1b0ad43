/- The laws on functions that read numbers in pieces, walked by the contracts of what they call. -/
import Derived.Test.YtpnicmhgenbnmaaGetC
import Derived.Test.YtpnicmhgenbnmaaOpen
namespace Go.Proofs.Ytpnicmhgenbnmaa
open Go.RowKit Go.Proofs.Ytpnicmhgenbnmaa.Num Go.Proofs.Ytpnicmhgenbnmaa.NumC Go.Proofs.Ytpnicmhgenbnmaa.Mem Go.Proofs.Ytpnicmhgenbnmaa.GetC Go.Proofs.Ytpnicmhgenbnmaa.Leb
set_option linter.unusedVariables false

set_option maxRecDepth 100000 in
theorem fnExactGetU_core (A : Option Addr) (n c : Nat) (bs : List Int) (a1 p q : Int) (t : Bool) (w : World) (hr : Rd w w.heap.size 1 A n (by8 bs)) (hn1 : n ≤ 1048576)
    (cS : Hid (∀ (A : Option Addr) (c : Nat) (w : World), Rd w w.heap.size 1 A n (by8 bs) → Calls Try.prog 48 #[.slice A n c, .int .i64 a1] w fun e w' => e = .returned (.tuple #[.int .i64 p, .int .i64 q, .bool t]) ∧ w = w'))
    (cI : Hid (∀ (A : Option Addr) (c : Nat) (w : World), Rd w w.heap.size 1 A n (by8 bs) → Calls Try.prog 49 #[.slice A n c, .int .i64 a1] w fun e w' => e = .returned (.tuple #[.int .i64 p, .int .i64 q, .bool t]) ∧ w = w')) :
    Calls Try.prog 13 #[.slice A n c, .int .i64 a1] w fun e w' => e = .returned (.bool true) ∧ Below w.heap.size w w' := by
  have hn' : (n : Int) ≤ 1048576 := by omega
  have HA := hide hr
  have HN := hide (show n ≤ 281474976710655 by omega)
  clear hr hn1
  go_enter Try.func13, Try.ntmps13
  go_wp2_with fail
  refine (toByteS_c A n c bs w HA.out HN.out).mono ?_
  rintro e w1 ⟨A1, c1, rfl, ho, hb⟩
  have O1 := hide ho
  have B1 := hide hb
  clear ho hb
  go_wp2_with fail
  refine (cS.out A1 c1 w1 O1.out.rd).mono ?_
  rintro e w2 ⟨rfl, rfl⟩
  go_wp2_with fail
  refine (toByteS_c A n c bs w1 (HA.out.bel B1.out) HN.out).mono ?_
  rintro e w3 ⟨A3, c3, rfl, ho, hb⟩
  have O3 := hide ho
  have B3 := hide (bel_step B1.out hb B1.out.size)
  clear ho hb
  go_wp2_with fail
  refine (cI.out A3 c3 w3 O3.out.rd).mono ?_
  rintro e w4 ⟨rfl, rfl⟩
  go_wp2_with fail
  refine (toByteS_c A n c bs w3 (HA.out.bel B3.out) HN.out).mono ?_
  rintro e w6 ⟨A6, c6, rfl, ho, hb⟩
  have O6 := hide ho
  have B6 := hide (bel_step B3.out hb B3.out.size)
  have G6 := hide hb
  clear ho hb
  go_wp2_with fail
  refine (eqByteS_c A3 A6 n c3 c6 bs w6 ((O3.out.below G6.out (Nat.le_refl _)).rd) O6.out.rd HN.out).mono ?_
  rintro e w7 ⟨rfl, m7, rfl⟩
  go_wp2_with fail
  go_ret
  exact ⟨rfl, bel_drewN B6.out m7⟩
theorem fnExactGetU_long (A : Option Addr) (n c : Nat) (a1 : Int) (w : World) (hn : 1048576 < n) (hm : n ≤ 9223372036854775807) : Calls Try.prog 13 #[.slice A n c, .int .i64 a1] w fun e w' => e = .returned (.bool true) ∧ Below w.heap.size w w' := by
  have hn' : (1048576 : Int) < n := by omega
  clear hn
  go_enter Try.func13, Try.ntmps13
  go_wp2_with fail
  go_ret
  exact ⟨rfl, Below.refl _ _⟩
theorem fnExactGetU_walk (A0 : Option Addr) (n0 c0 : Nat) (bs0 : List Int) (a1 : Int) (w : World) (w0 : IsNums .u8 w A0 n0 c0 bs0) (w1 : (Lit.int .i64 a1).wf = true) : Calls Try.prog 13 #[.slice A0 n0 c0, .int .i64 a1] w fun e w' => e = .returned (.bool true) ∧ Below w.heap.size w w' := by
  have hm : n0 ≤ 9223372036854775807 := by have := w0.max; have := w0.le; unfold maxLen at *; omega
  by_cases hn : 1048576 < n0
  · exact fnExactGetU_long A0 n0 c0 a1 w hn hm
  have hx : ∀ x ∈ bs0, 0 ≤ x ∧ x ≤ 255 := fun x h => u8_of_wf (w0.wf x h)
  exact fnExactGetU_core A0 n0 c0 bs0 a1 _ _ _ w w0.rd (by omega)
    (hide (fun A c w hr => sGetU A n0 c bs0 a1 w hr hx (by omega))) (hide (fun A c w hr => iGetU A n0 c bs0 a1 w hr hx (by omega)))
set_option maxRecDepth 100000 in
theorem fnExactGetS_core (A : Option Addr) (n c : Nat) (bs : List Int) (a1 p q : Int) (t : Bool) (w : World) (hr : Rd w w.heap.size 1 A n (by8 bs)) (hn1 : n ≤ 1048576)
    (cS : Hid (∀ (A : Option Addr) (c : Nat) (w : World), Rd w w.heap.size 1 A n (by8 bs) → Calls Try.prog 50 #[.slice A n c, .int .i64 a1] w fun e w' => e = .returned (.tuple #[.int .i64 p, .int .i64 q, .bool t]) ∧ w = w'))
    (cI : Hid (∀ (A : Option Addr) (c : Nat) (w : World), Rd w w.heap.size 1 A n (by8 bs) → Calls Try.prog 51 #[.slice A n c, .int .i64 a1] w fun e w' => e = .returned (.tuple #[.int .i64 p, .int .i64 q, .bool t]) ∧ w = w')) :
    Calls Try.prog 14 #[.slice A n c, .int .i64 a1] w fun e w' => e = .returned (.bool true) ∧ Below w.heap.size w w' := by
  have hn' : (n : Int) ≤ 1048576 := by omega
  have HA := hide hr
  have HN := hide (show n ≤ 281474976710655 by omega)
  clear hr hn1
  go_enter Try.func14, Try.ntmps14
  go_wp2_with fail
  refine (toByteS_c A n c bs w HA.out HN.out).mono ?_
  rintro e w1 ⟨A1, c1, rfl, ho, hb⟩
  have O1 := hide ho
  have B1 := hide hb
  clear ho hb
  go_wp2_with fail
  refine (cS.out A1 c1 w1 O1.out.rd).mono ?_
  rintro e w2 ⟨rfl, rfl⟩
  go_wp2_with fail
  refine (toByteS_c A n c bs w1 (HA.out.bel B1.out) HN.out).mono ?_
  rintro e w3 ⟨A3, c3, rfl, ho, hb⟩
  have O3 := hide ho
  have B3 := hide (bel_step B1.out hb B1.out.size)
  clear ho hb
  go_wp2_with fail
  refine (cI.out A3 c3 w3 O3.out.rd).mono ?_
  rintro e w4 ⟨rfl, rfl⟩
  go_wp2_with fail
  refine (toByteS_c A n c bs w3 (HA.out.bel B3.out) HN.out).mono ?_
  rintro e w6 ⟨A6, c6, rfl, ho, hb⟩
  have O6 := hide ho
  have B6 := hide (bel_step B3.out hb B3.out.size)
  have G6 := hide hb
  clear ho hb
  go_wp2_with fail
  refine (eqByteS_c A3 A6 n c3 c6 bs w6 ((O3.out.below G6.out (Nat.le_refl _)).rd) O6.out.rd HN.out).mono ?_
  rintro e w7 ⟨rfl, m7, rfl⟩
  go_wp2_with fail
  go_ret
  exact ⟨rfl, bel_drewN B6.out m7⟩
theorem fnExactGetS_long (A : Option Addr) (n c : Nat) (a1 : Int) (w : World) (hn : 1048576 < n) (hm : n ≤ 9223372036854775807) : Calls Try.prog 14 #[.slice A n c, .int .i64 a1] w fun e w' => e = .returned (.bool true) ∧ Below w.heap.size w w' := by
  have hn' : (1048576 : Int) < n := by omega
  clear hn
  go_enter Try.func14, Try.ntmps14
  go_wp2_with fail
  go_ret
  exact ⟨rfl, Below.refl _ _⟩
theorem fnExactGetS_walk (A0 : Option Addr) (n0 c0 : Nat) (bs0 : List Int) (a1 : Int) (w : World) (w0 : IsNums .u8 w A0 n0 c0 bs0) (w1 : (Lit.int .i64 a1).wf = true) : Calls Try.prog 14 #[.slice A0 n0 c0, .int .i64 a1] w fun e w' => e = .returned (.bool true) ∧ Below w.heap.size w w' := by
  have hm : n0 ≤ 9223372036854775807 := by have := w0.max; have := w0.le; unfold maxLen at *; omega
  by_cases hn : 1048576 < n0
  · exact fnExactGetS_long A0 n0 c0 a1 w hn hm
  have hx : ∀ x ∈ bs0, 0 ≤ x ∧ x ≤ 255 := fun x h => u8_of_wf (w0.wf x h)
  exact fnExactGetS_core A0 n0 c0 bs0 a1 _ _ _ w w0.rd (by omega)
    (hide (fun A c w hr => sGetS A n0 c bs0 a1 w hr hx (by omega))) (hide (fun A c w hr => iGetS A n0 c bs0 a1 w hr hx (by omega)))
end Go.Proofs.Ytpnicmhgenbnmaa
