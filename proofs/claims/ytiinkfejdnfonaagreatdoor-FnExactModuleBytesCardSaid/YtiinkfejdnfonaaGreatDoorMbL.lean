/- The law on ModuleBytes, walked. -/
import Derived.Test.YtiinkfejdnfonaaGreatDoorMbA
import Derived.Test.YtiinkfejdnfonaaGreatDoorMbX
import Derived.Test.YtiinkfejdnfonaaGreatDoorMbI
import Derived.Test.YtiinkfejdnfonaaGreatDoorRows
import Derived.Below
import Derived.Stop.LaidErr
namespace Go.Proofs.YtiinkfejdnfonaaGreatDoor
open Go.RowKit Go.Proofs.YtiinkfejdnfonaaGreatDoor.Num Go.Proofs.YtiinkfejdnfonaaGreatDoor.NumC Go.Proofs.YtiinkfejdnfonaaGreatDoor.Mem Go.Proofs.YtiinkfejdnfonaaGreatDoor.Utf Go.Proofs.YtiinkfejdnfonaaGreatDoor.Mo Go.Proofs.YtiinkfejdnfonaaGreatDoor.Mb
set_option linter.unusedVariables false
set_option maxRecDepth 100000
theorem mbU8x : U8Extra Tryz.prog Tryz.lays196_ren := by
  constructor <;> kernel_rfl
theorem mb_tabs {W : World} (h : laidMetH Tryz.prog Rows.fnExactModuleBytesRow.laid W) : UTab W := by
  have h4 := Lib.laidMet.reads h (n := "unicode/utf8.acceptRanges") (d := Rows.laid_unicode_utf8_acceptRanges) (by simp [Rows.fnExactModuleBytesRow])
  have h3 := Lib.laidMet.reads h (n := "unicode/utf8.first") (d := Rows.laid_unicode_utf8_first) (by simp [Rows.fnExactModuleBytesRow])
  have e3 : Rows.laid_unicode_utf8_first = Lib.firstData := Pinned.utf8First_eq
  have e4 : (Rows.laid_unicode_utf8_acceptRanges : DataW Unit) = Lib.acceptData := by kernel_rfl
  rw [e3] at h3
  rw [e4] at h4
  exact utf8Tabs_of_readsT (U8Types.of196 Tryz.lays196) mbU8x h3 h4
theorem fnExactModuleBytes_walk (a0 : MV) (w : World) (w0 : a0.Reads w ∧ a0.Long 9223372036854775807) (hL : laidMetH Tryz.prog Rows.fnExactModuleBytesRow.laid w) :
    Calls Tryz.prog 3 #[a0.v] w fun e w' => e = .returned (.bool true) ∧ Below w.heap.size w w' := by
  have hT := mb_tabs hL
  refine fnExactModuleBytes_core a0 w (formR a0.pl) (bytesM a0.pl).length (bytesM a0.pl) w0.1 w0.2 (by have := bytesM_le a0 w w0.1; omega) (hide fun p W hp hr hl => ?_) (hide fun p W hb hp hr hl => ?_)
  · have h := sModuleBytes p W hr hl
    rw [hp] at h
    exact h
  · have h := iModuleBytes p W hr hl (utab_bel hT hb)
    rw [hp] at h
    exact h
end Go.Proofs.YtiinkfejdnfonaaGreatDoor
