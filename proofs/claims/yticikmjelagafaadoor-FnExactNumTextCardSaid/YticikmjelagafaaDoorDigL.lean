/- The law on NumText, walked by the contracts of what it calls. -/
import Derived.Test.YticikmjelagafaaDoorDig
import Derived.Test.YticikmjelagafaaDoorRows
import Derived.Lib.LaidTab
import Derived.Below
import Derived.Stop.LaidErr
namespace Go.Proofs.YticikmjelagafaaDoor
open Go.RowKit Go.Proofs.YticikmjelagafaaDoor.Num Go.Proofs.YticikmjelagafaaDoor.NumC Go.Proofs.YticikmjelagafaaDoor.Mem Go.Proofs.YticikmjelagafaaDoor.Dig
set_option linter.unusedVariables false
set_option maxRecDepth 100000

theorem bel_grow (w : World) (k : Nat) (os : Array Obj) : Below w.heap.size w («Sort».grow (w.drewN k) os) :=
  ⟨rfl, rfl, rfl, by show w.heap.size ≤ (w.heap ++ os).size; simp, fun g hg => by show (w.heap ++ os)[g]? = w.heap[g]?; exact Array.getElem?_append_left hg⟩
theorem tab_bel {w w' : World} (h : Lib.TabIs Tryd.prog w "internal/strconv.uint64pow10" .u64 Lib.pow10Tab) (hb : Below w.heap.size w w') : Lib.TabIs Tryd.prog w' "internal/strconv.uint64pow10" .u64 Lib.pow10Tab := by
  have gTab : Tryd.prog.globalNamed "internal/strconv.uint64pow10" = some 7 := by kernel_rfl
  have hg : 7 < w.heap.size := by
    have := h.cell gTab 0 (by decide)
    unfold World.cell? at this
    rcases Nat.lt_or_ge 7 w.heap.size with h2 | h2
    · exact h2
    · rw [Array.getElem?_eq_none h2] at this; simp at this
  unfold Lib.TabIs World.var? at *
  rw [gTab] at h ⊢
  simp only [Option.bind_some] at h ⊢
  rw [hb.block _ hg]
  exact h
theorem pow_tab {rest : List (String × DataW Unit)} {W : World} (h : laidMet Tryd.prog (("internal/strconv.uint64pow10", Rows.laid_internal_strconv_uint64pow10) :: rest) W) : Lib.TabIs Tryd.prog W "internal/strconv.uint64pow10" .u64 Lib.pow10Tab :=
  Lib.tabIs_of_head (rest := rest) (g := 7) (t := 93) (e := 73) (by kernel_rfl) (by kernel_rfl) Tryd.underlying93 Tryd.underlying73 (by kernel_rfl) (by kernel_rfl) h
theorem fnExactNumText_walk (a0 : Int) (w : World) (w0 : (Lit.int .i64 a0).wf = true) (hL : laidMetH Tryd.prog Rows.fnExactNumTextRow.laid w) : Calls Tryd.prog 3 #[.int .i64 a0] w fun e w' => e = .returned (.bool true) ∧ Below w.heap.size w w' := by
  have HT := hide (pow_tab (rest := []) (laidMet.tail (laidMet.tail hL)))
  have cS := hide (sNumText a0 w)
  have cI := hide (fun (w : World) h => iNumText a0 w h)
  obtain ⟨S, hS⟩ : ∃ S, nt (wrap32 a0) = S := ⟨_, rfl⟩
  rw [hS] at cS cI
  clear w0 hL hS
  go_enter Tryd.func3, Tryd.ntmps3
  go_wp2_with fail
  refine cS.out.mono ?_
  rintro e w1 ⟨rfl, hb⟩
  have HT1 := hide (tab_bel HT.out hb)
  go_wp2_with fail
  refine (cI.out _ HT1.out).mono ?_
  rintro e w2 ⟨rfl, k, os, rfl⟩
  have hb2 := hide (bel_step hb (bel_grow w1 k os) hb.size)
  go_wp2_with fail
  go_ret
  exact ⟨rfl, hb2.out⟩
end Go.Proofs.YticikmjelagafaaDoor
