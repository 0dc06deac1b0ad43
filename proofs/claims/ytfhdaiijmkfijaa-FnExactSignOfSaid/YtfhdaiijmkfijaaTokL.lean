/- The law on SignOf, walked; an argument that is a word of the source, opened. -/
import Derived.Test.YtfhdaiijmkfijaaNumC
import Derived.Lib.SmallJoins
import Derived.OpenShut
import Derived.Below
namespace Go.Proofs.Ytfhdaiijmkfijaa
open Go.ChangeShapes Go.WideShapes Go.RowKit Go.Deep Go.Joins Go.Proofs.Ytfhdaiijmkfijaa.Num Go.Proofs.Ytfhdaiijmkfijaa.NumC
set_option linter.unusedVariables false

/-- a word as a value -/
abbrev tokV (k n : Int) (S : ByteArray) (z : Int) : Value := .agg #[.int .i64 k, .int .i64 n, .string S, .int .i64 z]
set_option maxRecDepth 100000 in
theorem open_tok {H : Type} {enc : TypeId × Value → H} {w : World} {spare : Nat → Bool} {held : Bool} {r : Reach} {b0 base : Nat} {v : Value} {d : DataW H} {p : List MemPlace}
    (hv : Value.okWide Try.prog w r b0 63 v) (h : DataW.Trod enc Try.prog w base spare held 63 v d p) :
    ∃ a : Int × Int × ByteArray × Int, v = tokV a.1 a.2.1 a.2.2.1 a.2.2.2 ∧ a.2.2.1.size ≤ maxLen := by
  obtain ⟨v0, v1, v2, v3, y0, y1, y2, y3, n, rfl, _, _, h0, h1, h2, h3⟩ := open_agg4 Try.underlying63 (by kernel_rfl) (by kernel_rfl) hv h
  obtain ⟨x0, e0, _, _⟩ := DataW.trod_int Try.underlying3 h0
  obtain ⟨x1, e1, _, _⟩ := DataW.trod_int Try.underlying3 h1
  obtain ⟨x2, e2, _, hs⟩ := DataW.trod_string Try.underlying9 h2
  obtain ⟨x3, e3, _, _⟩ := DataW.trod_int Try.underlying3 h3
  simp only [List.cons.injEq, and_true] at e0 e1 e2 e3
  subst e0; subst e1; subst e2; subst e3
  exact ⟨(x0, x1, x2, x3), rfl, hs⟩
theorem szTok_c (k n : Int) (S : ByteArray) (z : Int) (left : Int) (h0 : 0 ≤ left) (h1 : left ≤ 1048576) (hS : Hid (S.size ≤ maxLen)) (w : World) :
    Calls Try.prog 56 #[tokV k n S z, .int .i64 left] w fun e w' => (∃ x : Int, e = .returned (.int .i64 x)) ∧ Below w.heap.size w w' := by
  have hm : (S.size : Int) ≤ 9223372036854775807 := by have := hS.out; unfold maxLen at this; omega
  by_cases h : left < (S.size : Int)
  · have h' : (left : Int) - S.size < 0 := by omega
    go_enter Try.func56, Try.ntmps56
    go_wp2_with fail
    go_ret
    refine ⟨⟨_, rfl⟩, ?_⟩
    repeat (first | exact Below.refl _ _ | refine Below.setCell ?_ (by simp <;> omega) _ | refine Below.alloc ?_ (by simp <;> omega) _)
  · have h' : 0 ≤ (left : Int) - S.size := by omega
    go_enter Try.func56, Try.ntmps56
    go_wp2_with fail
    go_ret
    refine ⟨⟨_, rfl⟩, ?_⟩
    repeat (first | exact Below.refl _ _ | refine Below.setCell ?_ (by simp <;> omega) _ | refine Below.alloc ?_ (by simp <;> omega) _)
theorem toTok_c (k n : Int) (S : ByteArray) (z : Int) (w : World) :
    Calls Try.prog 58 #[tokV k n S z] w fun e w' => e = .returned (tokV k n S z) ∧ Below w.heap.size w w' := by
  go_enter Try.func58, Try.ntmps58
  go_wp2_with fail
  refine bodyPost_ret (v := tokV k n S z) (by simp [results, Try.results58, go_sem]) rfl ⟨rfl, ?_⟩
  repeat (first | exact Below.refl _ _ | refine Below.setCell ?_ (by simp <;> omega) _ | refine Below.alloc ?_ (by simp <;> omega) _)
theorem iSignOf (k n : Int) (S : ByteArray) (z : Int) (R : ByteArray) (h3 : k = 3 → R = S) (h0 : k ≠ 3 → R = ByteArray.empty) (w : World) :
    Calls Try.prog 59 #[tokV k n S z] w fun e w' => e = .returned (.string R) ∧ Below w.heap.size w w' := by
  have H3 := hide h3
  have H0 := hide h0
  clear h3 h0
  by_cases h : k = 3
  · have hR := hide (H3.out h)
    clear H3 H0
    go_enter Try.func59, Try.ntmps59
    go_wp2_with fail
    go_ret
    refine ⟨by rw [hR.out]; rfl, ?_⟩
    repeat (first | exact Below.refl _ _ | refine Below.setCell ?_ (by simp <;> omega) _ | refine Below.alloc ?_ (by simp <;> omega) _)
  · have hR := hide (H0.out h)
    clear H3 H0
    go_enter Try.func59, Try.ntmps59
    go_wp2_with fail
    go_ret
    refine ⟨by rw [hR.out]; rfl, ?_⟩
    repeat (first | exact Below.refl _ _ | refine Below.setCell ?_ (by simp <;> omega) _ | refine Below.alloc ?_ (by simp <;> omega) _)
theorem sSignOf (k n : Int) (S : ByteArray) (z : Int) (R : ByteArray) (h3 : k = 3 → R = S) (h0 : k ≠ 3 → R = ByteArray.empty) (w : World) :
    Calls Try.prog 57 #[tokV k n S z] w fun e w' => e = .returned (.string R) ∧ Below w.heap.size w w' := by
  have H3 := hide h3
  have H0 := hide h0
  clear h3 h0
  by_cases h : k = 3
  · have hR := hide (H3.out h)
    clear H3 H0
    go_enter Try.func57, Try.ntmps57
    go_wp2_with fail
    go_ret
    refine ⟨by rw [hR.out]; rfl, ?_⟩
    repeat (first | exact Below.refl _ _ | refine Below.setCell ?_ (by simp <;> omega) _ | refine Below.alloc ?_ (by simp <;> omega) _)
  · have hR := hide (H0.out h)
    clear H3 H0
    go_enter Try.func57, Try.ntmps57
    go_wp2_with fail
    go_ret
    refine ⟨by rw [hR.out]; rfl, ?_⟩
    repeat (first | exact Below.refl _ _ | refine Below.setCell ?_ (by simp <;> omega) _ | refine Below.alloc ?_ (by simp <;> omega) _)
theorem bcell {W w1 : World} (hb : Below W.heap.size W w1) : (∀ b o, b < W.heap.size → w1.cell? ⟨b, o, none⟩ = W.cell? ⟨b, o, none⟩) ∧ (∀ b o, b < W.heap.size → w1.frozen? ⟨b, o, none⟩ = W.frozen? ⟨b, o, none⟩) :=
  ⟨fun b o h => hb.cell (p := ⟨b, o, none⟩) h, fun b o h => hb.frozen (p := ⟨b, o, none⟩) h⟩
theorem fnExactSignOf_walk (a0 : Int × Int × ByteArray × Int) (w : World) (w0 : a0.2.2.1.size ≤ maxLen) : Calls Try.prog 13 #[tokV a0.1 a0.2.1 a0.2.2.1 a0.2.2.2] w fun e w' => e = .returned (.bool true) ∧ Below w.heap.size w w' := by
  obtain ⟨k, n, S, z⟩ := a0
  have HS := hide w0
  clear w0
  obtain ⟨R, h3, h0⟩ : ∃ R : ByteArray, (k = 3 → R = S) ∧ (k ≠ 3 → R = ByteArray.empty) := by
    by_cases h : k = 3
    · exact ⟨S, fun _ => rfl, fun h' => absurd h h'⟩
    · exact ⟨ByteArray.empty, fun h' => absurd h' h, fun _ => rfl⟩
  have c1 := hide (iSignOf k n S z R h3 h0)
  have c2 := hide (sSignOf k n S z R h3 h0)
  clear h3 h0
  go_enter Try.func13, Try.ntmps13
  go_wp2_with fail
  refine (szTok_c k n S z _ (by omega) (by omega) HS _).mono ?_
  rintro e w1 ⟨⟨x, rfl⟩, hb⟩
  obtain ⟨hc, hf⟩ := bcell hb
  have hz : w.heap.size < w1.heap.size := by have := hb.size; simp at this; omega
  have B1 := hide (((Below.refl w.heap.size w).alloc (Nat.le_refl _) (Obj.cells #[.int .i64 k, .int .i64 n, .string S, .int .i64 z] 63)).trans (hb.mono (by simp)))
  clear hb
  by_cases h : x < 0
  · go_wp2_with fail
    go_ret
    exact ⟨rfl, B1.out⟩
  · go_wp2_with fail
    refine (toTok_c _ _ _ _ _).mono ?_
    rintro e w2 ⟨rfl, hb⟩
    obtain ⟨hc2, hf2⟩ := bcell hb
    have hz2 : w.heap.size < w2.heap.size := by have := hb.size; omega
    have B2 := hide (B1.out.trans (hb.mono (by have := B1.out.size; omega)))
    clear hb
    go_wp2_with fail
    refine (c2.out _).mono ?_
    rintro e w3 ⟨rfl, hb⟩
    obtain ⟨hc3, hf3⟩ := bcell hb
    have hz3 : w.heap.size < w3.heap.size := by have := hb.size; omega
    have B3 := hide (B2.out.trans (hb.mono (by have := B2.out.size; omega)))
    clear hb
    go_wp2_with fail
    refine (toTok_c _ _ _ _ _).mono ?_
    rintro e w4 ⟨rfl, hb⟩
    have B4 := hide (B3.out.trans (hb.mono (by have := B3.out.size; omega)))
    clear hb
    go_wp2_with fail
    refine (c1.out _).mono ?_
    rintro e w5 ⟨rfl, hb⟩
    have B5 := hide (B4.out.trans (hb.mono (by have := B4.out.size; omega)))
    clear hb
    go_wp2_with fail
    go_ret
    exact ⟨rfl, B5.out⟩
end Go.Proofs.Ytfhdaiijmkfijaa
