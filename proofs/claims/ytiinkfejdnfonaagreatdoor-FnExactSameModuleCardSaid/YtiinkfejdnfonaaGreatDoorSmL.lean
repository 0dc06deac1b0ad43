/- The law on SameModule, walked. -/
import Derived.Test.YtiinkfejdnfonaaGreatDoorSmW
import Derived.Test.YtiinkfejdnfonaaGreatDoorSmC
import Derived.Test.YtiinkfejdnfonaaGreatDoorRows
import Derived.Below
import Derived.Stop.LaidErr
namespace Go.Proofs.YtiinkfejdnfonaaGreatDoor
open Go.RowKit Go.Proofs.YtiinkfejdnfonaaGreatDoor.Num Go.Proofs.YtiinkfejdnfonaaGreatDoor.NumC Go.Proofs.YtiinkfejdnfonaaGreatDoor.Mem Go.Proofs.YtiinkfejdnfonaaGreatDoor.Utf Go.Proofs.YtiinkfejdnfonaaGreatDoor.Mo Go.Proofs.YtiinkfejdnfonaaGreatDoor.Mb
set_option linter.unusedVariables false
set_option maxRecDepth 100000
theorem smU8x : U8Extra Tryz.prog Tryz.lays196_ren := by
  constructor <;> kernel_rfl
theorem sm_tabs {W : World} (h : laidMetH Tryz.prog Rows.fnExactSameModuleRow.laid W) : UTab W := by
  have h4 := Lib.laidMet.reads h (n := "unicode/utf8.acceptRanges") (d := Rows.laid_unicode_utf8_acceptRanges) (by simp [Rows.fnExactSameModuleRow])
  have h3 := Lib.laidMet.reads h (n := "unicode/utf8.first") (d := Rows.laid_unicode_utf8_first) (by simp [Rows.fnExactSameModuleRow])
  have e3 : Rows.laid_unicode_utf8_first = Lib.firstData := Pinned.utf8First_eq
  have e4 : (Rows.laid_unicode_utf8_acceptRanges : DataW Unit) = Lib.acceptData := by kernel_rfl
  rw [e3] at h3
  rw [e4] at h4
  exact utf8Tabs_of_readsT (U8Types.of196 Tryz.lays196) smU8x h3 h4
theorem fnExactSameModule_walk (a0 a1 : MV) (w : World) (w0 : a0.Reads w ∧ a0.Long 9223372036854775807) (w1 : a1.Reads w ∧ a1.Long 9223372036854775807) (hL : laidMetH Tryz.prog Rows.fnExactSameModuleRow.laid w) :
    Calls Tryz.prog 4 #[a0.v, a1.v] w fun e w' => e = .returned (.bool true) ∧ Below w.heap.size w w' := by
  have hT := sm_tabs hL
  refine fnExactSameModule_core a0 a1 w (sameM a0.pl a1.pl) w0.1 w1.1 w0.2 w1.2 (hide fun p q W hp hq rp rq lp lq => ?_) (hide fun p q W hb hp hq rp rq lp lq => ?_)
  · have h := sSameModule p q W rp rq lp lq
    rw [hp, hq] at h
    exact h
  · have h := iSameModule p q W rp rq lp lq (utab_bel hT hb)
    rw [hp, hq] at h
    exact h
end Go.Proofs.YtiinkfejdnfonaaGreatDoor
