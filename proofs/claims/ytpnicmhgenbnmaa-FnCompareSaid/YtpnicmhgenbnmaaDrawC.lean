/- What each generator of numbers draws. -/
import Derived.Test.YtpnicmhgenbnmaaDraw
namespace Go.Proofs.Ytpnicmhgenbnmaa.Draw
open Go.RowKit Go.Proofs.Ytpnicmhgenbnmaa.Num Go.Proofs.Ytpnicmhgenbnmaa.NumC Go.Proofs.Ytpnicmhgenbnmaa.Mem

def One64 (w : World) (e : Ending) (w' : World) : Prop := ∃ x : Int, e = .returned (.int .i64 x) ∧ -9223372036854775808 ≤ x ∧ x ≤ 9223372036854775807 ∧ Below w.heap.size w w'
def Two64 (w : World) (e : Ending) (w' : World) : Prop := ∃ x y : Int, e = .returned (.tuple #[.int .i64 x, .int .i64 y]) ∧ Below w.heap.size w w'
def Three64 (w : World) (e : Ending) (w' : World) : Prop := ∃ x y z : Int, e = .returned (.tuple #[.int .i64 x, .int .i64 y, .int .i64 z]) ∧ Below w.heap.size w w'

section
variable (A : Option Addr) (n c : Nat) (bs : List Int) (w : World) (hr : Rd w w.heap.size 1 A n (by8 bs)) (hn : n ≤ 1048576) (hx : ∀ x ∈ bs, 0 ≤ x ∧ x ≤ 255)
include hr hn hx
theorem DrawAdd_c : Calls Try.prog 25 #[.slice A n c] w (Two64 w) := by
  go_enter Try.func25, Try.ntmps25
  go_wp2_with fail
  refine (new_c A n c bs w hr hn hx).mono ?_
  rintro e w1 ⟨g, rfl, hg, hc1, hb1⟩
  clear hr hx
  go_wp2_with fail
  refine (two_c g A n c bs w1 _ hc1 (Below.refl _ _)).mono ?_
  rintro e w2 ⟨x, y, rfl, hc2, hb2⟩
  go_wp2_with fail
  go_ret2
  exact ⟨x, y, rfl, hb1.trans (hb2.mono hg)⟩
theorem DrawMul_c : Calls Try.prog 26 #[.slice A n c] w (Two64 w) := by
  go_enter Try.func26, Try.ntmps26
  go_wp2_with fail
  refine (new_c A n c bs w hr hn hx).mono ?_
  rintro e w1 ⟨g, rfl, hg, hc1, hb1⟩
  clear hr hx
  go_wp2_with fail
  refine (two_c g A n c bs w1 _ hc1 (Below.refl _ _)).mono ?_
  rintro e w2 ⟨x, y, rfl, hc2, hb2⟩
  go_wp2_with fail
  go_ret2
  exact ⟨x, y, rfl, hb1.trans (hb2.mono hg)⟩
theorem DrawDivS_c : Calls Try.prog 33 #[.slice A n c] w (Two64 w) := by
  go_enter Try.func33, Try.ntmps33
  go_wp2_with fail
  refine (new_c A n c bs w hr hn hx).mono ?_
  rintro e w1 ⟨g, rfl, hg, hc1, hb1⟩
  clear hr hx
  go_wp2_with fail
  refine (two_c g A n c bs w1 _ hc1 (Below.refl _ _)).mono ?_
  rintro e w2 ⟨x, y, rfl, hc2, hb2⟩
  go_wp2_with fail
  go_ret2
  exact ⟨x, y, rfl, hb1.trans (hb2.mono hg)⟩
theorem DrawBits_c : Calls Try.prog 38 #[.slice A n c] w (Three64 w) := by
  go_enter Try.func38, Try.ntmps38
  go_wp2_with fail
  refine (new_c A n c bs w hr hn hx).mono ?_
  rintro e w1 ⟨g, rfl, hg, hc1, hb1⟩
  clear hr hx
  go_wp2_with fail
  refine (op_c g A n c bs _ w1 _ (by omega) (by omega) hc1 (Below.refl _ _)).mono ?_
  rintro e w2 ⟨o, rfl, ⟨o0, o1⟩, hc2, hb2⟩
  go_wp2_with fail
  refine (two_c g A n c bs w1 _ hc2 hb2).mono ?_
  rintro e w3 ⟨x, y, rfl, hc3, hb3⟩
  go_wp2_with fail
  refine (below_c g A n c bs _ w1 _ (by omega) hc3 hb3).mono ?_
  rintro e w4 ⟨k, rfl, ⟨k0, k1⟩, hc4, hb4⟩
  go_wp2_with fail
  · refine (below_c g A n c bs _ w1 _ (by omega) hc4 hb4).mono ?_
    rintro e w5 ⟨z, rfl, ⟨z0, z1⟩, hc5, hb5⟩
    go_wp2_with fail
    go_ret3
    exact ⟨o, x, z, rfl, hb1.trans (hb5.mono hg)⟩
  · go_ret3
    exact ⟨o, x, y, rfl, hb1.trans (hb4.mono hg)⟩
theorem DrawCompare_c : Calls Try.prog 39 #[.slice A n c] w (Three64 w) := by
  go_enter Try.func39, Try.ntmps39
  go_wp2_with fail
  refine (new_c A n c bs w hr hn hx).mono ?_
  rintro e w1 ⟨g, rfl, hg, hc1, hb1⟩
  clear hr hx
  go_wp2_with fail
  refine (op_c g A n c bs _ w1 _ (by omega) (by omega) hc1 (Below.refl _ _)).mono ?_
  rintro e w2 ⟨o, rfl, ⟨o0, o1⟩, hc2, hb2⟩
  go_wp2_with fail
  refine (two_c g A n c bs w1 _ hc2 hb2).mono ?_
  rintro e w3 ⟨x, y, rfl, hc3, hb3⟩
  go_wp2_with fail
  refine (below_c g A n c bs _ w1 _ (by omega) hc3 hb3).mono ?_
  rintro e w4 ⟨k, rfl, ⟨k0, k1⟩, hc4, hb4⟩
  go_wp2_with fail
  · go_ret3
    exact ⟨o, x, x, rfl, hb1.trans (hb4.mono hg)⟩
  · go_ret3
    exact ⟨o, x, y, rfl, hb1.trans (hb4.mono hg)⟩
end
end Go.Proofs.Ytpnicmhgenbnmaa.Draw
