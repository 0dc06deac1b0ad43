/- What each generator of numbers draws. -/
import Derived.Test.YticikmjelagafaaDoorDraw
namespace Go.Proofs.YticikmjelagafaaDoor.Draw
open Go.RowKit Go.Proofs.YticikmjelagafaaDoor.Num Go.Proofs.YticikmjelagafaaDoor.NumC Go.Proofs.YticikmjelagafaaDoor.Mem

def One64 (w : World) (e : Ending) (w' : World) : Prop := ∃ x : Int, e = .returned (.int .i64 x) ∧ -9223372036854775808 ≤ x ∧ x ≤ 9223372036854775807 ∧ Below w.heap.size w w'
def Two64 (w : World) (e : Ending) (w' : World) : Prop := ∃ x y : Int, e = .returned (.tuple #[.int .i64 x, .int .i64 y]) ∧ Below w.heap.size w w'
def Three64 (w : World) (e : Ending) (w' : World) : Prop := ∃ x y z : Int, e = .returned (.tuple #[.int .i64 x, .int .i64 y, .int .i64 z]) ∧ Below w.heap.size w w'

section
variable (A : Option Addr) (n c : Nat) (bs : List Int) (w : World) (hr : Rd w w.heap.size 1 A n (by8 bs)) (hn : n ≤ 1048576) (hx : ∀ x ∈ bs, 0 ≤ x ∧ x ≤ 255)
include hr hn hx
theorem DrawPop_c : Calls Tryd.prog 18 #[.slice A n c] w (One64 w) := by
  go_enter Tryd.func18, Tryd.ntmps18
  go_wp2_with fail
  refine (new_c A n c bs w hr hn hx).mono ?_
  rintro e w1 ⟨g, rfl, hg, hc1, hb1⟩
  clear hr hx
  go_wp2_with fail
  refine (raw_c g A n c bs w1 _ hc1 (Below.refl _ _)).mono ?_
  rintro e w2 ⟨x, rfl, ⟨x0, x1⟩, hc2, hb2⟩
  go_wp2_with fail
  go_ret
  exact ⟨x, rfl, x0, x1, hb1.trans (hb2.mono hg)⟩
theorem DrawNumText_c : Calls Tryd.prog 16 #[.slice A n c] w (One64 w) := by
  go_enter Tryd.func16, Tryd.ntmps16
  go_wp2_with fail
  refine (new_c A n c bs w hr hn hx).mono ?_
  rintro e w1 ⟨g, rfl, hg, hc1, hb1⟩
  clear hr hx
  go_wp2_with fail
  refine (raw_c g A n c bs w1 _ hc1 (Below.refl _ _)).mono ?_
  rintro e w2 ⟨x, rfl, ⟨x0, x1⟩, hc2, hb2⟩
  go_wp2_with fail
  go_ret
  exact ⟨x, rfl, x0, x1, hb1.trans (hb2.mono hg)⟩
end
end Go.Proofs.YticikmjelagafaaDoor.Draw
