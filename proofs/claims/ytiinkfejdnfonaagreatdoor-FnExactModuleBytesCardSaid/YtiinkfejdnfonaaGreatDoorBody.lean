/- Where a begin has its end and its else, in the program and in the reference: a contract each. -/
import Derived.Test.YtiinkfejdnfonaaGreatDoorIns
import Derived.Test.YtiinkfejdnfonaaGreatDoorShapeN
namespace Go.Proofs.YtiinkfejdnfonaaGreatDoor.Body
open Go.RowKit Go.Proofs.YtiinkfejdnfonaaGreatDoor.Num Go.Proofs.YtiinkfejdnfonaaGreatDoor.Mem Go.Proofs.YtiinkfejdnfonaaGreatDoor.Shape
set_option linter.unusedVariables false

theorem isBeg_eq {op : Int} (h : isBeg op = true) : op = 2 ∨ op = 3 ∨ op = 4 := by
  simp only [isBeg, Bool.or_eq_true, beq_iff_eq] at h
  omega
theorem isBeg_ne {op : Int} (h : isBeg op = false) : op ≠ 2 ∧ op ≠ 3 ∧ op ≠ 4 := by
  simp only [isBeg, Bool.or_eq_false_iff, beq_eq_false_iff_ne, ne_eq] at h
  omega
theorem rd_cell {w wr : World} {B n : Nat} {A : Option Addr} {l : List Ins3} (h : Rd w B 3 A n (insC l)) (k : Nat) (hk : k < n) (hc : ∀ p : Addr, p.block < B → wr.cell? p = w.cell? p) :
    ∃ b off, A = some ⟨b, off, none⟩ ∧ ∃ x y z, l[k]? = some (x, y, z) ∧ wr.cell? ⟨b, off + k * 3, none⟩ = some (.int .i64 x) ∧ wr.cell? ⟨b, off + k * 3 + 1, none⟩ = some (.int .i64 y) ∧ wr.cell? ⟨b, off + k * 3 + 2, none⟩ = some (.int .i64 z) ∧ b < B := by
  obtain ⟨b, off, rfl, hb, hcell⟩ := h.2 (by omega)
  have hl : k < l.length := by have := rd_ins h; omega
  obtain ⟨q0, q1, q2⟩ := insC_get l k hl
  refine ⟨b, off, rfl, l[k].1, l[k].2.1, l[k].2.2, List.getElem?_eq_getElem hl, (hc _ hb).trans (hcell _ _ q0), ?_, ?_, hb⟩
  · exact (hc ⟨b, off + k * 3 + 1, none⟩ hb).trans (hcell (k * 3 + 1) _ q1)
  · exact (hc ⟨b, off + k * 3 + 2, none⟩ hb).trans (hcell (k * 3 + 2) _ q2)
theorem drop_get {l : List Ins3} {k : Nat} {x : Ins3} (h : l[k]? = some x) : l.drop k = x :: l.drop (k + 1) := by
  obtain ⟨hk, rfl⟩ := List.getElem?_eq_some_iff.1 h
  exact List.drop_eq_getElem_cons hk

theorem within_t (x lo hi : Int) (w : World) (h : lo ≤ x) (h' : x ≤ hi) : Calls Tryz.prog 87 #[.int .i64 x, .int .i64 lo, .int .i64 hi] w fun e w' => e = .returned (.bool true) ∧ w = w' := by
  go_enter Tryz.func87, Tryz.ntmps87
  go_wp2_with fail
  go_ret
  exact ⟨rfl, rfl⟩
theorem within_f (x lo hi : Int) (w : World) (h : x < lo ∨ hi < x) : Calls Tryz.prog 87 #[.int .i64 x, .int .i64 lo, .int .i64 hi] w fun e w' => e = .returned (.bool false) ∧ w = w' := by
  by_cases h1 : x < lo
  · clear h
    go_enter Tryz.func87, Tryz.ntmps87
    go_wp2_with fail
    go_ret
    exact ⟨rfl, rfl⟩
  · have h2 : lo ≤ x := by omega
    have h3 : hi < x := by omega
    have h4 : decide (x ≤ hi) = false := by simp; omega
    clear h h1
    go_enter Tryz.func87, Tryz.ntmps87
    go_wp2_with fail
    go_ret
    exact ⟨rfl, rfl⟩
theorem ibeg_c (op : Int) (w : World) : Calls Tryz.prog 115 #[.int .i64 op] w fun e w' => e = .returned (.bool (isBeg op)) ∧ w = w' := by
  by_cases h2 : op = 2
  · subst h2
    go_enter Tryz.func115, Tryz.ntmps115
    go_wp2_with fail
    go_ret
    exact ⟨rfl, rfl⟩
  · by_cases h3 : op = 3
    · subst h3
      go_enter Tryz.func115, Tryz.ntmps115
      go_wp2_with fail
      go_ret
      exact ⟨rfl, rfl⟩
    · go_enter Tryz.func115, Tryz.ntmps115
      go_wp2_with fail
      go_ret
      exact ⟨rfl, rfl⟩
theorem ibeg_t (op : Int) (w : World) (h : Hid (isBeg op = true)) : Calls Tryz.prog 115 #[.int .i64 op] w fun e w' => e = .returned (.bool true) ∧ w = w' :=
  (ibeg_c op w).mono fun _ _ ⟨he, hw⟩ => ⟨by rw [he, h.out], hw⟩
theorem ibeg_f (op : Int) (w : World) (h : Hid (isBeg op = false)) : Calls Tryz.prog 115 #[.int .i64 op] w fun e w' => e = .returned (.bool false) ∧ w = w' :=
  (ibeg_c op w).mono fun _ _ ⟨he, hw⟩ => ⟨by rw [he, h.out], hw⟩
theorem sbeg_c (op : Int) (w : World) : Calls Tryz.prog 131 #[.int .i64 op] w fun e w' => e = .returned (.bool (isBeg op)) ∧ w = w' := by
  by_cases h2 : op = 2
  · subst h2
    go_enter Tryz.func131, Tryz.ntmps131
    go_wp2_with fail
    go_ret
    exact ⟨rfl, rfl⟩
  · by_cases h3 : op = 3
    · subst h3
      go_enter Tryz.func131, Tryz.ntmps131
      go_wp2_with fail
      go_ret
      exact ⟨rfl, rfl⟩
    · go_enter Tryz.func131, Tryz.ntmps131
      go_wp2_with fail
      go_ret
      exact ⟨rfl, rfl⟩
theorem sbeg_t (op : Int) (w : World) (h : Hid (isBeg op = true)) : Calls Tryz.prog 131 #[.int .i64 op] w fun e w' => e = .returned (.bool true) ∧ w = w' :=
  (sbeg_c op w).mono fun _ _ ⟨he, hw⟩ => ⟨by rw [he, h.out], hw⟩
theorem sbeg_f (op : Int) (w : World) (h : Hid (isBeg op = false)) : Calls Tryz.prog 131 #[.int .i64 op] w fun e w' => e = .returned (.bool false) ∧ w = w' :=
  (sbeg_c op w).mono fun _ _ ⟨he, hw⟩ => ⟨by rw [he, h.out], hw⟩
end Go.Proofs.YtiinkfejdnfonaaGreatDoor.Body
