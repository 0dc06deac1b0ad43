/- The law on UtfOk, walked. -/
import Derived.Test.YtjncpjibkjncaaaDoorUtfC
import Derived.Test.YtjncpjibkjncaaaDoorRows
import Derived.Below
import Derived.Stop.LaidErr
namespace Go.Proofs.YtjncpjibkjncaaaDoor
open Go.RowKit Go.Proofs.YtjncpjibkjncaaaDoor.Num Go.Proofs.YtjncpjibkjncaaaDoor.NumC Go.Proofs.YtjncpjibkjncaaaDoor.Mem Go.Proofs.YtjncpjibkjncaaaDoor.Utf
set_option linter.unusedVariables false
set_option maxRecDepth 100000

theorem u8x : U8Extra Tryd.prog Tryd.lays196_ren := by
  constructor <;> kernel_rfl
theorem utf_tabs {W : World} (h : laidMetH Tryd.prog Rows.fnExactUtfOkRow.laid W) : Lib.Utf8Tabs 0 1 W := by
  have h4 := Lib.laidMet.reads h (n := "unicode/utf8.acceptRanges") (d := Rows.laid_unicode_utf8_acceptRanges) (by simp [Rows.fnExactUtfOkRow])
  have h3 := Lib.laidMet.reads h (n := "unicode/utf8.first") (d := Rows.laid_unicode_utf8_first) (by simp [Rows.fnExactUtfOkRow])
  have e3 : Rows.laid_unicode_utf8_first = Lib.firstData := Pinned.utf8First_eq
  have e4 : (Rows.laid_unicode_utf8_acceptRanges : DataW Unit) = Lib.acceptData := by kernel_rfl
  rw [e3] at h3
  rw [e4] at h4
  exact utf8Tabs_of_readsT (U8Types.of196 Tryd.lays196) u8x h3 h4
theorem fnExactUtfOk_walk (a0 : ByteArray) (w : World) (w0 : a0.size ≤ maxLen) (hL : laidMetH Tryd.prog Rows.fnExactUtfOkRow.laid w) : Calls Tryd.prog 5 #[.string a0] w fun e w' => e = .returned (.bool true) ∧ Below w.heap.size w w' := by
  have HT := hide (utf_tabs hL)
  have hm : (a0.size : Int) ≤ 9223372036854775807 := by unfold maxLen at w0; omega
  clear w0 hL
  by_cases hn : 1048576 < (a0.size : Int)
  · go_enter Tryd.func5, Tryd.ntmps5
    go_wp2_with fail
    go_ret
    exact ⟨rfl, Below.refl _ _⟩
  · have hn' : (a0.size : Int) ≤ 1048576 := by omega
    have cS := hide (fun w => sUtfOk a0 w hn')
    have cI := hide (fun w h => iUtfOk a0 w hn' h)
    obtain ⟨R, hR⟩ : ∃ R, utfOk a0 = R := ⟨_, rfl⟩
    rw [hR] at cS cI
    clear hn hR
    go_enter Tryd.func5, Tryd.ntmps5
    go_wp2_with fail
    refine (cS.out _).mono ?_
    rintro e w1 ⟨rfl, rfl⟩
    go_wp2_with fail
    refine (cI.out _ HT.out).mono ?_
    rintro e w2 ⟨rfl, hb⟩
    go_wp2_with fail
    go_ret
    exact ⟨rfl, hb⟩
end Go.Proofs.YtjncpjibkjncaaaDoor
