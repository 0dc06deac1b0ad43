/- The laws on texts with their length ahead, written and read, walked by the contracts of what they call. -/
import Derived.Test.YtddlfdjeipadoaaNameC
import Derived.Test.YtddlfdjeipadoaaOpen
namespace Go.Proofs.Ytddlfdjeipadoaa
open Go.RowKit Go.Proofs.Ytddlfdjeipadoaa.Num Go.Proofs.Ytddlfdjeipadoaa.NumC Go.Proofs.Ytddlfdjeipadoaa.Mem Go.Proofs.Ytddlfdjeipadoaa.PutC Go.Proofs.Ytddlfdjeipadoaa.GetC Go.Proofs.Ytddlfdjeipadoaa.Leb Go.Proofs.Ytddlfdjeipadoaa.NameC
set_option linter.unusedVariables false
theorem ow_cap {w : World} {base e size n c : Nat} {A : Option Addr} {xs : List Value} (h : Ow w base e size A n c xs) : n ≤ c := by
  rcases h.2 with ⟨hv, h0⟩ | ⟨g, cap, cur, hv, _, _, hc, _⟩
  · omega
  · injection hv with _ _ h3
    omega

set_option maxRecDepth 100000 in
theorem fnExactPutName_core (A : Option Addr) (n c N : Nat) (bs F : List Int) (a1 : ByteArray) (hs : (a1.size : Int) ≤ 1048576) (w : World) (hr : Rd w w.heap.size 1 A n (by8 bs)) (hn : n ≤ 2097152) (hn1 : n ≤ 1048576) (hN : N ≤ 4194304)
    (cS : Hid (∀ (A : Option Addr) (c : Nat) (w : World), Rd w w.heap.size 1 A n (by8 bs) → Calls Try.prog 15 #[.slice A n c, .string a1] w (Fresh 5 1 N (by8 F) w)))
    (cI : Hid (∀ (A : Option Addr) (c : Nat) (w : World), Rd w w.heap.size 1 A n (by8 bs) → Calls Try.prog 17 #[.slice A n c, .string a1] w (Fresh 5 1 N (by8 F) w))) :
    Calls Try.prog 3 #[.slice A n c, .string a1] w fun e w' => e = .returned (.bool true) ∧ Below w.heap.size w w' := by
  have hn' : (n : Int) ≤ 1048576 := by omega
  have hN' : (N : Int) ≤ 4194304 := by omega
  have HA := hide hr
  have HN := hide (show n ≤ 281474976710655 by omega)
  have HM := hide (show N ≤ 281474976710655 by omega)
  clear hr hn hn1 hN
  go_enter Try.func3, Try.ntmps3
  go_wp2_with fail
  refine (toByteS_c A n c bs w HA.out HN.out).mono ?_
  rintro e w1 ⟨A1, c1, rfl, ho, hb⟩
  have O1 := hide ho
  have B1 := hide hb
  clear ho hb
  go_wp2_with fail
  refine (cS.out A1 c1 w1 O1.out.rd).mono ?_
  rintro e w2 ⟨A2, c2, rfl, ho, hb⟩
  have O2 := hide ho
  have B2 := hide (bel_step B1.out hb B1.out.size)
  clear ho hb
  go_wp2_with fail
  refine (toByteS_c A n c bs w2 (HA.out.bel B2.out) HN.out).mono ?_
  rintro e w3 ⟨A3, c3, rfl, ho, hb⟩
  have O3 := hide ho
  have B3 := hide (bel_step B2.out hb B2.out.size)
  have D3 := hide hb
  clear ho hb
  go_wp2_with fail
  refine (cI.out A3 c3 w3 O3.out.rd).mono ?_
  rintro e w4 ⟨A4, c4, rfl, ho, hb⟩
  have O4 := hide ho
  have B4 := hide (bel_step B3.out hb B3.out.size)
  have D4 := hide (bel_step D3.out hb D3.out.size)
  have G4 := hide hb
  clear ho hb
  go_wp2_with fail
  refine (eqByteS_c A4 A2 N c4 c2 F w4 O4.out.rd ((O2.out.below D4.out (Nat.le_refl _)).rd) HM.out).mono ?_
  rintro e w5 ⟨rfl, m5, rfl⟩
  go_wp2_with fail
  refine (toByteS_c A n c bs _ (HA.out.bel (bel_drewN B4.out m5)) HN.out).mono ?_
  rintro e w6 ⟨A6, c6, rfl, ho, hb⟩
  have O6 := hide ho
  have G6 := hide (bel_step (bel_drewN G4.out m5) hb G4.out.size)
  have E6 := hide (bel_step (bel_drewN (Below.refl w4.heap.size w4) m5) hb (Nat.le_refl _))
  clear ho hb
  go_wp2_with fail
  refine (eqByteS_c A3 A6 n c3 c6 bs w6 ((O3.out.below G6.out (Nat.le_refl _)).rd) O6.out.rd HN.out).mono ?_
  rintro e w7 ⟨rfl, m7, rfl⟩
  have O37 := hide ((O3.out.below G6.out (Nat.le_refl _)).drewN m7)
  have O47 := hide ((O4.out.below E6.out (Nat.le_refl _)).drewN m7)
  have D7 := hide (bel_drewN (bel_step D4.out E6.out (bel_le D4.out (Nat.le_refl _))) m7)
  have B7 := hide (bel_drewN (bel_step B4.out E6.out B4.out.size) m7)
  go_wp2_with fail
  refine (markByteS_c A3 n c3 w2.heap.size (by8 bs) 1 _ O37.out HN.out (by omega) (by omega)).mono ?_
  rintro e w8 ⟨rfl, ho, hg⟩
  have D8 := hide (bel_grown D7.out hg D7.out.size O37.out.ge)
  have B8 := hide (bel_grown B7.out hg B7.out.size (fun g hh => Nat.le_trans B2.out.size (O37.out.ge g hh)))
  have O48 := hide (Ow.kept O47.out hg (blk_ne' O3.out.lt O4.out.ge))
  clear ho hg
  go_wp2_with fail
  refine (eqByteS_c A4 A2 N c4 c2 F w8 O48.out.rd ((O2.out.below D8.out (Nat.le_refl _)).rd) HM.out).mono ?_
  rintro e w9 ⟨rfl, m9, rfl⟩
  have D9 := hide (bel_drewN D8.out m9)
  have B9 := hide (bel_drewN B8.out m9)
  have O49 := hide (O48.out.drewN m9)
  go_wp2_with fail
  refine (markByteS_c A4 N c4 w3.heap.size (by8 F) 1 _ O49.out HM.out (by omega) (by omega)).mono ?_
  rintro e w10 ⟨rfl, ho, hg⟩
  have P10 := hide ho
  have D10 := hide (bel_grown D9.out hg D9.out.size (fun g hh => Nat.le_trans D3.out.size (O49.out.ge g hh)))
  have B10 := hide (bel_grown B9.out hg B9.out.size (fun g hh => Nat.le_trans B3.out.size (O49.out.ge g hh)))
  clear ho hg
  go_wp2_with fail
  refine (heldByteS_c A4 N c4 1 w10 P10.out.rd HM.out (by omega) (by omega)).mono ?_
  rintro e w11 ⟨rfl, rfl⟩
  go_wp2_with fail
  refine (toByteS_c A n c bs w10 (HA.out.bel B10.out) HN.out).mono ?_
  rintro e w12 ⟨A12, c12, rfl, ho, hb⟩
  have O12 := hide ho
  have E12 := hide hb
  clear ho hb
  go_wp2_with fail
  refine (cI.out A12 c12 w12 O12.out.rd).mono ?_
  rintro e w13 ⟨A13, c13, rfl, ho, hb⟩
  have O13 := hide ho
  have E13 := hide (bel_step E12.out hb E12.out.size)
  have D13 := hide (bel_step D10.out E13.out D10.out.size)
  have B13 := hide (bel_step B10.out E13.out B10.out.size)
  clear ho hb
  go_wp2_with fail
  refine (eqByteS_c A13 A2 N c13 c2 F w13 O13.out.rd ((O2.out.below D13.out (Nat.le_refl _)).rd) HM.out).mono ?_
  rintro e w14 ⟨rfl, m14, rfl⟩
  go_wp2_with fail
  refine (heldByteS_c A4 N c4 1 _ (((P10.out.below E13.out (Nat.le_refl _)).drewN m14).rd) HM.out (by omega) (by omega)).mono ?_
  rintro e w15 ⟨rfl, rfl⟩
  go_wp2_with fail
  go_ret
  exact ⟨rfl, bel_drewN B13.out m14⟩
theorem fnExactPutName_long (A : Option Addr) (n c : Nat) (a1 : ByteArray) (w : World) (hn : 1048576 < n) (hm : n ≤ 9223372036854775807) : Calls Try.prog 3 #[.slice A n c, .string a1] w fun e w' => e = .returned (.bool true) ∧ Below w.heap.size w w' := by
  have hn' : (1048576 : Int) < n := by omega
  clear hn
  go_enter Try.func3, Try.ntmps3
  go_wp2_with fail
  go_ret
  exact ⟨rfl, Below.refl _ _⟩
theorem fnExactPutName_long2 (A : Option Addr) (n c : Nat) (a1 : ByteArray) (w : World) (hn : (n : Int) ≤ 1048576) (hs : (1048576 : Int) < a1.size) : Calls Try.prog 3 #[.slice A n c, .string a1] w fun e w' => e = .returned (.bool true) ∧ Below w.heap.size w w' := by
  go_enter Try.func3, Try.ntmps3
  go_wp2_with fail
  go_ret
  exact ⟨rfl, Below.refl _ _⟩
theorem fnExactPutName_walk (A0 : Option Addr) (n0 c0 : Nat) (bs0 : List Int) (a1 : ByteArray) (w : World) (w0 : IsNums .u8 w A0 n0 c0 bs0) (w1 : a1.size ≤ maxLen) : Calls Try.prog 3 #[.slice A0 n0 c0, .string a1] w fun e w' => e = .returned (.bool true) ∧ Below w.heap.size w w' := by
  have hm : n0 ≤ 9223372036854775807 := by have := w0.max; have := w0.le; unfold maxLen at *; omega
  by_cases hn : 1048576 < n0
  · exact fnExactPutName_long A0 n0 c0 a1 w hn hm
  by_cases hs : 1048576 < a1.size
  · exact fnExactPutName_long2 A0 n0 c0 a1 w (by omega) (by omega)
  have hl := putU_le 5 (a1.size : Int)
  exact fnExactPutName_core A0 n0 c0 (n0 + (putU 5 (a1.size : Int)).length + a1.size) bs0 (bs0 ++ putU 5 (a1.size : Int) ++ sb a1) a1 (by omega) w w0.rd (by omega) (by omega) (by omega)
    (hide (fun A c w hr => sPutName A n0 c bs0 a1 w hr (by omega) (by omega))) (hide (fun A c w hr => iPutName A n0 c bs0 a1 w hr (by omega) (by omega)))
set_option maxRecDepth 100000 in
theorem fnExactGetName_core (A : Option Addr) (n c : Nat) (bs : List Int) (a1 : Int) (S : ByteArray) (q : Int) (t : Bool) (w : World) (hr : Rd w w.heap.size 1 A n (by8 bs)) (hn1 : n ≤ 1048576)
    (cS : Hid (∀ (A : Option Addr) (c : Nat) (w : World), Rd w w.heap.size 1 A n (by8 bs) → n ≤ c → Calls Try.prog 21 #[.slice A n c, .int .i64 a1] w fun e w' => e = .returned (.tuple #[.string S, .int .i64 q, .bool t]) ∧ w = w'))
    (cI : Hid (∀ (A : Option Addr) (c : Nat) (w : World), Rd w w.heap.size 1 A n (by8 bs) → n ≤ c → Calls Try.prog 22 #[.slice A n c, .int .i64 a1] w fun e w' => e = .returned (.tuple #[.string S, .int .i64 q, .bool t]) ∧ w = w')) :
    Calls Try.prog 4 #[.slice A n c, .int .i64 a1] w fun e w' => e = .returned (.bool true) ∧ Below w.heap.size w w' := by
  have hn' : (n : Int) ≤ 1048576 := by omega
  have HA := hide hr
  have HN := hide (show n ≤ 281474976710655 by omega)
  clear hr hn1
  go_enter Try.func4, Try.ntmps4
  go_wp2_with fail
  refine (toByteS_c A n c bs w HA.out HN.out).mono ?_
  rintro e w1 ⟨A1, c1, rfl, ho, hb⟩
  have O1 := hide ho
  have B1 := hide hb
  clear ho hb
  go_wp2_with fail
  refine (cS.out A1 c1 w1 O1.out.rd (ow_cap O1.out)).mono ?_
  rintro e w2 ⟨rfl, rfl⟩
  go_wp2_with fail
  refine (toByteS_c A n c bs w1 (HA.out.bel B1.out) HN.out).mono ?_
  rintro e w3 ⟨A3, c3, rfl, ho, hb⟩
  have O3 := hide ho
  have B3 := hide (bel_step B1.out hb B1.out.size)
  clear ho hb
  go_wp2_with fail
  refine (cI.out A3 c3 w3 O3.out.rd (ow_cap O3.out)).mono ?_
  rintro e w4 ⟨rfl, rfl⟩
  go_wp2_with fail
  refine (toByteS_c A n c bs w3 (HA.out.bel B3.out) HN.out).mono ?_
  rintro e w6 ⟨A6, c6, rfl, ho, hb⟩
  have O6 := hide ho
  have B6 := hide (bel_step B3.out hb B3.out.size)
  have G6 := hide hb
  clear ho hb
  go_wp2_with fail
  refine (eqByteS_c A3 A6 n c3 c6 bs w6 ((O3.out.below G6.out (Nat.le_refl _)).rd) O6.out.rd HN.out).mono ?_
  rintro e w7 ⟨rfl, m7, rfl⟩
  go_wp2_with fail
  go_ret
  exact ⟨rfl, bel_drewN B6.out m7⟩
theorem fnExactGetName_long (A : Option Addr) (n c : Nat) (a1 : Int) (w : World) (hn : 1048576 < n) (hm : n ≤ 9223372036854775807) : Calls Try.prog 4 #[.slice A n c, .int .i64 a1] w fun e w' => e = .returned (.bool true) ∧ Below w.heap.size w w' := by
  have hn' : (1048576 : Int) < n := by omega
  clear hn
  go_enter Try.func4, Try.ntmps4
  go_wp2_with fail
  go_ret
  exact ⟨rfl, Below.refl _ _⟩
theorem fnExactGetName_walk (A0 : Option Addr) (n0 c0 : Nat) (bs0 : List Int) (a1 : Int) (w : World) (w0 : IsNums .u8 w A0 n0 c0 bs0) (w1 : (Lit.int .i64 a1).wf = true) : Calls Try.prog 4 #[.slice A0 n0 c0, .int .i64 a1] w fun e w' => e = .returned (.bool true) ∧ Below w.heap.size w w' := by
  have hm : n0 ≤ 9223372036854775807 := by have := w0.max; have := w0.le; unfold maxLen at *; omega
  by_cases hn : 1048576 < n0
  · exact fnExactGetName_long A0 n0 c0 a1 w hn hm
  have hx : ∀ x ∈ bs0, 0 ≤ x ∧ x ≤ 255 := fun x h => u8_of_wf (w0.wf x h)
  exact fnExactGetName_core A0 n0 c0 bs0 a1 _ _ _ w w0.rd (by omega)
    (hide (fun A c w hr hc => sGetName A n0 c bs0 a1 w hr hx (by omega) hc)) (hide (fun A c w hr hc => iGetName A n0 c bs0 a1 w hr hx (by omega) hc))
end Go.Proofs.Ytddlfdjeipadoaa
