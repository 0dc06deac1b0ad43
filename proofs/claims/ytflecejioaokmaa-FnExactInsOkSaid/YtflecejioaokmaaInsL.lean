/- The law on InsOk, walked; an argument that is an instruction, opened. -/
import Derived.Test.YtflecejioaokmaaInsS
import Derived.Lib.SmallJoins
import Derived.OpenShut
import Derived.Below
namespace Go.Proofs.Ytflecejioaokmaa
open Go.ChangeShapes Go.WideShapes Go.RowKit Go.Deep Go.Joins Go.Proofs.Ytflecejioaokmaa.Num Go.Proofs.Ytflecejioaokmaa.NumC Go.Proofs.Ytflecejioaokmaa.Mem Go.Proofs.Ytflecejioaokmaa.Ops Go.Proofs.Ytflecejioaokmaa.Shape
set_option linter.unusedVariables false

abbrev insV (a : Int × Int × Int) : Value := .agg #[.int .i64 a.1, .int .i64 a.2.1, .int .i64 a.2.2]
theorem open_ins {H : Type} {enc : TypeId × Value → H} {w : World} {spare : Nat → Bool} {held : Bool} {r : Reach} {b0 base : Nat} {v : Value} {d : DataW H} {p : List MemPlace}
    (hv : Value.okWide Try.prog w r b0 44 v) (h : DataW.Trod enc Try.prog w base spare held 44 v d p) :
    ∃ a : Int × Int × Int, v = insV a ∧ True := by
  obtain ⟨v0, v1, v2, y0, y1, y2, n, rfl, _, _, h0, h1, h2⟩ := open_agg3 Try.underlying44 (by kernel_rfl) (by kernel_rfl) hv h
  obtain ⟨x0, e0, _, _⟩ := DataW.trod_int Try.underlying3 h0
  obtain ⟨x1, e1, _, _⟩ := DataW.trod_int Try.underlying3 h1
  obtain ⟨x2, e2, _, _⟩ := DataW.trod_int Try.underlying3 h2
  simp only [List.cons.injEq, and_true] at e0 e1 e2
  subst e0; subst e1; subst e2
  exact ⟨(x0, x1, x2), rfl, trivial⟩
theorem fnExactInsOk_walk (a0 : Int × Int × Int) (w : World) (w0 : True) : Calls Try.prog 6 #[insV a0] w fun e w' => e = .returned (.bool true) ∧ Below w.heap.size w w' := by
  obtain ⟨op, a, b⟩ := a0
  obtain ⟨R, hR⟩ : ∃ R, insOk (op, a, b) = R := ⟨_, rfl⟩
  have c1 := iInsOk op a b
  have c2 := sInsOk op a b
  rw [hR] at c1 c2
  have C1 := hide c1
  have C2 := hide c2
  clear c1 c2 hR w0
  go_enter Try.func6, Try.ntmps6
  go_wp2_with fail
  have V0 := var3_new w op a b 44
  generalize w.alloc (.cells #[.int .i64 op, .int .i64 a, .int .i64 b] 44) = W0 at V0 ⊢
  refine (toIns_c op a b _).mono ?_
  rintro e w1 ⟨rfl, hb1⟩
  have V1 := var3_bel V0 hb1
  go_wp2_with fail
  refine (C2.out _).mono ?_
  rintro e w2 ⟨rfl, hb2⟩
  have V2 := var3_bel V1 hb2
  clear V0 V1
  obtain ⟨c0, c1, c2, hb⟩ := V2
  have HV := hide (show Var3 w op a b w2 from ⟨c0, c1, c2, hb⟩)
  clear hb hb1 hb2
  go_wp2_with fail
  refine (toIns_c op a b _).mono ?_
  rintro e w3 ⟨rfl, hb3⟩
  have V3 := var3_bel HV.out hb3
  go_wp2_with fail
  refine (C1.out _).mono ?_
  rintro e w4 ⟨rfl, hb4⟩
  have V4 := hide (var3_bel V3 hb4).2.2.2
  clear V3 hb3 hb4
  go_wp2_with fail
  go_ret
  exact ⟨rfl, V4.out⟩
end Go.Proofs.Ytflecejioaokmaa
