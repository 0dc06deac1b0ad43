/- The program's list of all names, and where a text stands in a list; the program's OpName and NameOp: a contract each. -/
import Derived.Test.YtiinkfejdnfonaaDoorOpI
import Derived.Test.YtiinkfejdnfonaaDoorShelf
import Derived.Lib.LaidTab
namespace Go.Proofs.YtiinkfejdnfonaaDoor.Ops
open Go.RowKit Go.Proofs.YtiinkfejdnfonaaDoor.Num Go.Proofs.YtiinkfejdnfonaaDoor.NumC Go.Proofs.YtiinkfejdnfonaaDoor.Mem
set_option linter.unusedVariables false

def text1 : ByteArray := ⟨#[117, 110, 114, 101, 97, 99, 104, 97, 98, 108, 101, 32, 110, 111, 112, 32, 98, 108, 111, 99, 107, 32, 108, 111, 111, 112, 32, 105, 102, 32, 101, 108, 115, 101, 32, 101, 110, 100, 32, 98, 114, 32, 98, 114, 95, 105, 102, 32, 114, 101, 116, 117, 114, 110, 32, 99, 97, 108, 108, 32, 100, 114, 111, 112, 32, 115, 101, 108, 101, 99, 116, 32, 108, 111, 99, 97, 108, 46, 103, 101, 116, 32, 108, 111, 99, 97, 108, 46, 115, 101, 116, 32, 108, 111, 99, 97, 108, 46, 116, 101, 101, 32, 103, 108, 111, 98, 97, 108, 46, 103, 101, 116, 32, 103, 108, 111, 98, 97, 108, 46, 115, 101, 116, 32, 105, 51, 50, 46, 108, 111, 97, 100, 32, 105, 51, 50, 46, 115, 116, 111, 114, 101, 32, 109, 101, 109, 111, 114, 121, 46, 115, 105, 122, 101, 32, 109, 101, 109, 111, 114, 121, 46, 103, 114, 111, 119, 32, 105, 51, 50, 46, 99, 111, 110, 115, 116, 32, 105, 51, 50, 46, 101, 113, 122]⟩
def text2 : ByteArray := ⟨#[101, 113, 32, 110, 101, 32, 108, 116, 95, 115, 32, 108, 116, 95, 117, 32, 103, 116, 95, 115, 32, 103, 116, 95, 117, 32, 108, 101, 95, 115, 32, 108, 101, 95, 117, 32, 103, 101, 95, 115, 32, 103, 101, 95, 117, 32, 99, 108, 122, 32, 99, 116, 122, 32, 112, 111, 112, 99, 110, 116, 32, 97, 100, 100, 32, 115, 117, 98, 32, 109, 117, 108, 32, 100, 105, 118, 95, 115, 32, 100, 105, 118, 95, 117, 32, 114, 101, 109, 95, 115, 32, 114, 101, 109, 95, 117, 32, 97, 110, 100, 32, 111, 114, 32, 120, 111, 114, 32, 115, 104, 108, 32, 115, 104, 114, 95, 115, 32, 115, 104, 114, 95, 117, 32, 114, 111, 116, 108, 32, 114, 111, 116, 114]⟩
theorem fields1 : (Lib.fields text1.data.toList).map (fun l => (⟨l.toArray⟩ : ByteArray)) = names1 := by decide +kernel
theorem fields2 : (Lib.fields text2.data.toList).map (fun l => (⟨l.toArray⟩ : ByteArray)) = cmps ++ nums := by decide +kernel
theorem len_f1 : (Lib.fields text1.data.toList).length = 24 := by decide +kernel
theorem len_f2 : (Lib.fields text2.data.toList).length = 28 := by decide +kernel
theorem asc1 : ∀ (j : Nat) b, text1.data.toList[j]? = some b → b.toNat < 128 := by
  have h : ∀ b ∈ text1.data.toList, b.toNat < 128 := by decide +kernel
  exact fun j b hb => h b (List.mem_of_getElem? hb)
theorem asc2 : ∀ (j : Nat) b, text2.data.toList[j]? = some b → b.toNat < 128 := by
  have h : ∀ b ∈ text2.data.toList, b.toNat < 128 := by decide +kernel
  exact fun j b hb => h b (List.mem_of_getElem? hb)
theorem cells1 : ((Lib.fields text1.data.toList).map fun l => Value.string ⟨l.toArray⟩).toArray = (strC names1).toArray := by
  rw [← fields1]
  simp [strC, List.map_map, Function.comp_def]
theorem cells2 : ((Lib.fields text2.data.toList).map fun l => Value.string ⟨l.toArray⟩).toArray = (strC (cmps ++ nums)).toArray := by
  rw [← fields2]
  simp [strC, List.map_map, Function.comp_def]
/-- the library's table of white space -/
def Tab (w : World) : Prop := Lib.TabIs Tryd.prog w "strings.asciiSpace" .u8 Lib.asciiSpaceTab
theorem tabS_bel {w w' : World} (h : Tab w) (hb : Below w.heap.size w w') : Tab w' := by
  have gTab : Tryd.prog.globalNamed "strings.asciiSpace" = some 0 := by kernel_rfl
  unfold Tab at *
  have hg : 0 < w.heap.size := by
    have := h.cell gTab 0 (by decide +kernel)
    unfold World.cell? at this
    rcases Nat.lt_or_ge 0 w.heap.size with h2 | h2
    · exact h2
    · rw [Array.getElem?_eq_none h2] at this; simp at this
  unfold Lib.TabIs World.var? at *
  rw [gTab] at h ⊢
  simp only [Option.bind_some] at h ⊢
  rw [hb.block _ hg]
  exact h
theorem ES : Elem Tryd.prog 68 9 (.string ⟨#[]⟩) 1 16 := Elem.mk_ Tryd.underlying68 (by kernel_rfl) rfl (by omega) (by omega)
theorem oneS (x : ByteArray) : ∀ u ∈ (#[Value.string x] : Array Value).toList, u.oneCell' = true := by
  intro u hu
  simp only [List.mem_singleton] at hu
  subst hu
  rfl
theorem fields1_c (w : World) (hT : Tab w) : Calls Tryd.prog 116 #[.string text1] w (Fresh 9 1 24 (strC names1) w) := by
  refine (Tryd.strings_Fields text1 w (by decide +kernel) asc1 hT).mono ?_
  rintro e w' ⟨rfl, rfl⟩
  rw [len_f1, cells1]
  exact ⟨_, _, rfl, World.ownsRow_lit w _ 24 (Nat.le_refl _) (by decide) rfl, (Below.refl _ _).alloc (Nat.le_refl _) _⟩
theorem fields2_c (w : World) (hT : Tab w) : Calls Tryd.prog 116 #[.string text2] w (Fresh 9 1 28 (strC (cmps ++ nums)) w) := by
  refine (Tryd.strings_Fields text2 w (by decide +kernel) asc2 hT).mono ?_
  rintro e w' ⟨rfl, rfl⟩
  rw [len_f2, cells2]
  exact ⟨_, _, rfl, World.ownsRow_lit w _ 28 (Nat.le_refl _) (by decide) rfl, (Below.refl _ _).alloc (Nat.le_refl _) _⟩
theorem names_all : allNames = names1 ++ (cmps ++ nums).map (i32 ++ ·) := by unfold allNames; rw [List.map_append]
theorem names_more {k : Nat} {x : ByteArray} (h : (cmps ++ nums)[k]? = some x) : allNames.take (24 + k) ++ [i32 ++ x] = allNames.take (24 + k + 1) := by
  have h2 : allNames[24 + k]? = some (i32 ++ x) := by
    rw [names_all, List.getElem?_append_right (by rw [lenN1]; omega), lenN1, Nat.add_sub_cancel_left, List.getElem?_map, h]
    rfl
  obtain ⟨hk, he⟩ := List.getElem?_eq_some_iff.1 h2
  rw [← he]
  exact List.take_append_getElem hk
set_option maxRecDepth 100000 in
theorem opNames_c (w : World) (hT : Tab w) : Calls Tryd.prog 82 #[] w (Fresh 9 1 52 (strC allNames) w) := by
  go_enter Tryd.func82, Tryd.ntmps82
  go_wp2_with fail
  refine (fields1_c _ hT).mono ?_
  rintro e w1 ⟨A1, c1, rfl, ho1, hb1⟩
  have HO1 := hide ho1
  have HT1 := hide (tabS_bel hT hb1)
  have HB1 := hide hb1
  clear ho1 hb1 hT
  go_wp2_with fail
  refine (fields2_c _ HT1.out).mono ?_
  rintro e w2 ⟨A2, c2, rfl, ho2, hb2⟩
  obtain ⟨g2, rfl, hg2l, hg2u⟩ := ho2.form (by omega)
  have HO2 := hide (HO1.out.below hb2 (Nat.le_refl _))
  have HB2 := hide (bel_step HB1.out hb2 HB1.out.size)
  have R2 := hide ho2.rd
  have NE0 := hide (show some g2 ≠ blk A1 from fun e => by have := HO1.out.lt g2 e.symm; omega)
  clear ho2 hb2 HO1 HB1
  go_wp2_with fail
  go_loopw [1, 7] (fun s i wr => ∃ (k : Nat) (A : Option Addr) (c : Nat), k ≤ 28 ∧ i = .int .i64 k ∧ s = .slice A (24 + k) c ∧ Hid (Ow wr w.heap.size 9 1 A (24 + k) c (strC (allNames.take (24 + k)))) ∧ Hid (Below w.heap.size w wr) ∧ Hid (Rd wr wr.heap.size 1 (some ⟨g2, 0, none⟩) 28 (strC (cmps ++ nums))) ∧ Hid (some g2 ≠ blk A)) (fun _ i _ => 28 - (intOf i).toNat)
  case atStart => exact ⟨0, A1, c1, Nat.zero_le _, rfl, rfl, HO2, HB2, R2, NE0⟩
  case round =>
    obtain ⟨k, A, c, hk, rfl, rfl, HO, HB, HR, NE⟩ := hrel
    by_cases hlt : k < 28
    · have hi : (k : Int) < 28 := by omega
      obtain ⟨b, off, hA, x, hx, hc, hbl⟩ := get_str (wr := wr) HR.out k hlt (fun _ _ => rfl)
      injection hA with hA
      injection hA with e1 e2 _
      subst e1; subst e2
      rw [Nat.zero_add] at hc
      have hxs : x.size ≤ 1000 := (by decide +kernel : ∀ c ∈ cmps ++ nums, c.size ≤ 1000) _ (List.mem_of_getElem? hx)
      have hadd : ∀ w : World, (Op.stringOp .add ⟨#[105, 51, 50, 46]⟩ x).run Tryd.prog w = .ok (.string (i32 ++ x)) w := str_add i32 x (by rw [i32_size]; omega)
      have HXk := hide hx
      clear hx hxs
      go_wp2_with (at_builtin; refine app1 rfl _ _ rfl rfl rfl ES HO.out rfl (oneS _) (by omega) HB.out.size ?_; intro B3 d3 w3 ho3 hg3 hl3)
      go_roundw
      case rel =>
        first
          | refine ⟨k + 1, B3, d3, by omega, by go_num, rfl, hide ?_, hide (bel_grown HB.out hg3 HB.out.size (fun g hg => (HO.out.blk_lt g hg).1)), hide (HR.out.grown hg3 (Nat.le_refl _) NE.out), hide ?_⟩
          | refine ⟨k + 1, by omega, by go_num, B3, d3, ⟨rfl, by omega, rfl⟩, hide ?_, hide (bel_grown HB.out hg3 HB.out.size (fun g hg => (HO.out.blk_lt g hg).1)), hide (HR.out.grown hg3 (Nat.le_refl _) NE.out), hide ?_⟩
        · rw [← Nat.add_assoc, ← names_more HXk.out]
          simpa [strC] using ho3
        · rcases hl3 with h | ⟨g, h, hge⟩
          · rw [h]; exact NE.out
          · rw [h]
            intro e
            injection e with e
            omega
      case measure => simp [intOf]; omega
    · obtain rfl : k = 28 := by omega
      go_wp2_with fail
      go_ret
      exact ⟨A, c, rfl, HO.out, HB.out⟩
end Go.Proofs.YtiinkfejdnfonaaDoor.Ops
