/- The law on Ctz, walked by the contracts of what it calls. -/
import Derived.Test.YticikmjelagafaaDoorCtz
import Derived.Test.YticikmjelagafaaDoorRows
import Derived.Below
namespace Go.Proofs.YticikmjelagafaaDoor
open Go.RowKit Go.Proofs.YticikmjelagafaaDoor.Num Go.Proofs.YticikmjelagafaaDoor.Ctz
set_option linter.unusedVariables false

theorem ctz_tab {rest : List (String × DataW Unit)} {W : World} (h : laidMet Tryd.prog (("math/bits.deBruijn32tab", Rows.laid_math_bits_deBruijn32tab) :: rest) W) : Go.Proofs.TabAt 0 Lib.deBruijn32tab W := by
  have gTab : Tryd.prog.globalNamed "math/bits.deBruijn32tab" = some 0 := by kernel_rfl
  have hT : Lib.TabIs Tryd.prog W "math/bits.deBruijn32tab" .u8 (Lib.deBruijn32tab.map Int.ofNat) :=
    Lib.tabIs_of_head (rest := rest) (t := 57) (e := 5) gTab (by kernel_rfl) Tryd.underlying57 Tryd.underlying5 (by kernel_rfl) (by kernel_rfl) h
  intro j hj
  have := hT.cell gTab j (by simpa using hj)
  rw [this, List.getD_eq_getElem?_getD, List.getElem?_map, List.getElem?_eq_getElem hj, List.getD_eq_getElem?_getD, List.getElem?_eq_getElem hj]
  rfl
end Go.Proofs.YticikmjelagafaaDoor
