/- The law on BodyText, walked. -/
import Derived.Test.YtiinkfejdnfonaaDoorBtC
import Derived.Test.YtiinkfejdnfonaaDoorBodyL
import Derived.Test.YtiinkfejdnfonaaDoorRows
import Derived.Lib.LaidU8
import Derived.Below
import Derived.Stop.LaidErr
namespace Go.Proofs.YtiinkfejdnfonaaDoor
open Go.RowKit Go.Proofs.YtiinkfejdnfonaaDoor.Num Go.Proofs.YtiinkfejdnfonaaDoor.NumC Go.Proofs.YtiinkfejdnfonaaDoor.Mem Go.Proofs.YtiinkfejdnfonaaDoor.Shape Go.Proofs.YtiinkfejdnfonaaDoor.Ops Go.Proofs.YtiinkfejdnfonaaDoor.Dig Go.Proofs.YtiinkfejdnfonaaDoor.Tn Go.Proofs.YtiinkfejdnfonaaDoor.Bt
set_option linter.unusedVariables false
set_option maxRecDepth 100000
theorem tab_of_reads {W : World} {name : String} {k : IntKind} {zs : List Int} {g : Nat} {t e : TypeId} {n : Nat}
    (hg : Tryd.prog.globalNamed name = some g) (hty : (Tryd.prog.globals[g]?).map (·.type) = some t) (ht : Tryd.prog.underlying t = some (.array n e)) (he : Tryd.prog.underlying e = some (.int k)) (hce : Tryd.prog.cellsOf e = 1) (hct : Tryd.prog.cellsOf t = n)
    (h : Lib.VarReads Tryd.prog W name (Lib.tabData k zs)) : Lib.TabIs Tryd.prog W name k zs := by
  obtain ⟨g', t', cs, fuel, p, hg', ht', hvar, hd⟩ := h
  obtain rfl := Option.some.inj (hg.symm.trans hg')
  obtain rfl := Option.some.inj (hty.symm.trans ht')
  unfold Lib.TabIs
  rw [hvar, ← Lib.cells_of_tab ht he hce hct hd]
theorem bt_tabs {W : World} (h : laidMetH Tryd.prog Rows.fnExactBodyTextRow.laid W) : Tab W ∧ TabP W := by
  have m1 : (("strings.asciiSpace", Rows.laid_strings_asciiSpace) : String × DataW Unit) ∈ Rows.fnExactBodyTextRow.laid := List.Mem.tail _ (List.Mem.tail _ (List.Mem.tail _ (List.Mem.tail _ (List.Mem.head _))))
  have m2 : (("internal/strconv.uint64pow10", Rows.laid_internal_strconv_uint64pow10) : String × DataW Unit) ∈ Rows.fnExactBodyTextRow.laid := List.Mem.tail _ (List.Mem.tail _ (List.Mem.head _))
  exact ⟨tab_of_reads (g := 0) (t := 163) (e := 5) (by kernel_rfl) (by kernel_rfl) Tryd.underlying163 Tryd.underlying5 (by kernel_rfl) (by kernel_rfl) (Lib.laidMet.reads h m1),
    tab_of_reads (g := 7) (t := 214) (e := 184) (by kernel_rfl) (by kernel_rfl) Tryd.underlying214 Tryd.underlying184 (by kernel_rfl) (by kernel_rfl) (Lib.laidMet.reads h m2)⟩
theorem fnExactBodyText_core (A : Option Addr) (n c : Nat) (l : List Ins3) (w : World) (hm : n ≤ maxLen) (hr : Rd w w.heap.size 3 A n (insC l)) (hT : Tab w) (hP : TabP w) :
    Calls Tryd.prog 3 #[.slice A n c] w fun e w' => e = .returned (.bool true) ∧ Below w.heap.size w w' := by
  have hm' : (n : Int) ≤ 9223372036854775807 := by unfold maxLen at hm; omega
  have HR := hide hr
  have HT := hide hT
  have HP := hide hP
  clear hr hm hT hP
  go_enter Tryd.func3, Tryd.ntmps3
  go_wp2_with fail
  refine (szInsS_c A n c _ w (by omega) (by omega) (by omega)).mono ?_
  rintro e w0 ⟨⟨h, rfl⟩ | ⟨h, rfl⟩, hw⟩
  all_goals
    have hw' := hw.symm
    subst hw'
    clear hw
  · go_wp2_with fail
    go_ret
    exact ⟨rfl, Below.refl _ _⟩
  · have HN := hide (show n ≤ 1048576 by omega)
    obtain ⟨left, hleft⟩ : ∃ left : Int, 1048576 - (n : Int) = left := ⟨_, rfl⟩
    have hl0 : 0 ≤ left := by omega
    rw [hleft]
    clear hleft h hm'
    obtain ⟨S, hS⟩ : ∃ S, bodyT l = S := ⟨_, rfl⟩
    have cS := hide (fun A c w hr => sBodyText A n c l w hr HN.out)
    have cI := hide (fun A c w hr hT hP => iBodyText A n c l w hr HN.out hT hP)
    rw [hS] at cS cI
    have hss : (S.toList == S.toList) = true := by simp
    clear hS
    go_wp2_with fail
    refine (toInsS_c A n c l _ HR.out HN.out).mono ?_
    rintro e w1 ⟨A1, c1, rfl, ho, hb⟩
    have O1 := hide ho
    have B1 := hide hb
    clear ho hb
    go_wp2_with fail
    refine (cS.out A1 c1 w1 O1.out.rd).mono ?_
    rintro e w2 ⟨rfl, hb⟩
    have B2 := hide (bel_step B1.out hb B1.out.size)
    clear hb
    go_wp2_with fail
    refine (toInsS_c A n c l _ (HR.out.bel B2.out) HN.out).mono ?_
    rintro e w3 ⟨A3, c3, rfl, ho, hb⟩
    have O3 := hide ho
    have B3 := hide (bel_step B2.out hb B2.out.size)
    clear ho hb
    go_wp2_with fail
    refine (cI.out A3 c3 w3 O3.out.rd (tabS_bel HT.out B3.out) (tabP_bel HP.out B3.out)).mono ?_
    rintro e w4 ⟨rfl, hb⟩
    have B4 := hide (bel_step B3.out hb B3.out.size)
    have O4 := hide (O3.out.below hb (Nat.le_refl _))
    clear hb
    go_wp2_with fail
    refine (toInsS_c A n c l _ (HR.out.bel B4.out) HN.out).mono ?_
    rintro e w5 ⟨A5, c5, rfl, ho, hb⟩
    have O5 := hide ho
    have O35 := hide (O4.out.below hb (Nat.le_refl _))
    have B5 := hide (bel_step B4.out hb B4.out.size)
    clear ho hb
    go_wp2_with fail
    refine (eqInsS_c A3 A5 n c3 c5 l w5 O35.out.rd O5.out.rd HN.out).mono ?_
    rintro e w6 ⟨rfl, hb⟩
    have B6 := hide (bel_step B5.out hb B5.out.size)
    clear hb
    go_wp2_with fail
    go_ret
    exact ⟨rfl, B6.out⟩
theorem fnExactBodyText_walk (a0 : Option Addr × Nat × Nat × List Ins3) (w : World) (w0 : a0.2.1 ≤ maxLen ∧ Rd w w.heap.size 3 a0.1 a0.2.1 (insC a0.2.2.2)) (hL : laidMetH Tryd.prog Rows.fnExactBodyTextRow.laid w) :
    Calls Tryd.prog 3 #[.slice a0.1 a0.2.1 a0.2.2.1] w fun e w' => e = .returned (.bool true) ∧ Below w.heap.size w w' :=
  fnExactBodyText_core _ _ _ a0.2.2.2 w w0.1 w0.2 (bt_tabs hL).1 (bt_tabs hL).2
end Go.Proofs.YtiinkfejdnfonaaDoor
