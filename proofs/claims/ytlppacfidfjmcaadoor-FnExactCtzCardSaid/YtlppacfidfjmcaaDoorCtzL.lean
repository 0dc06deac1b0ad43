/- The law on Ctz, walked by the contracts of what it calls. -/
import Derived.Test.YtlppacfidfjmcaaDoorCtz
import Derived.Test.YtlppacfidfjmcaaDoorRows
import Derived.Below
namespace Go.Proofs.YtlppacfidfjmcaaDoor
open Go.RowKit Go.Proofs.YtlppacfidfjmcaaDoor.Num Go.Proofs.YtlppacfidfjmcaaDoor.Ctz
set_option linter.unusedVariables false

theorem ctz_tab {rest : List (String × DataW Unit)} {W : World} (h : laidMet Tryd.prog (("math/bits.deBruijn32tab", Rows.laid_math_bits_deBruijn32tab) :: rest) W) : Go.Proofs.TabAt 0 Lib.deBruijn32tab W := by
  have gTab : Tryd.prog.globalNamed "math/bits.deBruijn32tab" = some 0 := by kernel_rfl
  have hT : Lib.TabIs Tryd.prog W "math/bits.deBruijn32tab" .u8 (Lib.deBruijn32tab.map Int.ofNat) :=
    Lib.tabIs_of_head (rest := rest) (t := 26) (e := 5) gTab (by kernel_rfl) Tryd.underlying26 Tryd.underlying5 (by kernel_rfl) (by kernel_rfl) h
  intro j hj
  have := hT.cell gTab j (by simpa using hj)
  rw [this, List.getD_eq_getElem?_getD, List.getElem?_map, List.getElem?_eq_getElem hj, List.getD_eq_getElem?_getD, List.getElem?_eq_getElem hj]
  rfl
theorem fnExactCtz_walk (a0 : Int) (w : World) (w0 : (Lit.int .i64 a0).wf = true) (hL : laidMetH Tryd.prog Rows.fnExactCtzRow.laid w) : Calls Tryd.prog 3 #[.int .i64 a0] w fun e w' => e = .returned (.bool true) ∧ Below w.heap.size w w' := by
  have HT := hide (ctz_tab (rest := []) hL)
  clear w0 hL
  go_enter Tryd.func3, Tryd.ntmps3
  go_wp2_with (first | (go_at_call 4; refine (sCtz _ _).mono ?_; rintro e w' ⟨rfl, rfl⟩) | (go_at_call 5; refine (iCtz _ _ HT.out).mono ?_; rintro e w' ⟨rfl, rfl⟩))
  go_ret
  exact ⟨rfl, Below.refl _ _⟩
end Go.Proofs.YtlppacfidfjmcaaDoor
