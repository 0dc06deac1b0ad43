/- The law on right shapes, walked: each begin has its end, an else lies between. -/
import Derived.Test.YtbedkcedooemdaaDv
import Derived.Test.YtbedkcedooemdaaShapeC
import Derived.Test.YtbedkcedooemdaaOpen
namespace Go.Proofs.Ytbedkcedooemdaa
open Go.RowKit Go.Proofs.Ytbedkcedooemdaa.Num Go.Proofs.Ytbedkcedooemdaa.NumC Go.Proofs.Ytbedkcedooemdaa.Mem Go.Proofs.Ytbedkcedooemdaa.Draw Go.Proofs.Ytbedkcedooemdaa.Shape Go.Proofs.Ytbedkcedooemdaa.Body
set_option linter.unusedVariables false
theorem bal_app : ∀ a b : List Ins3, bal (a ++ b) = bal a + bal b
  | [], b => by simp [bal]
  | x :: a, b => by rw [List.cons_append, bal, bal, bal_app a b]; omega
theorem bal_bd : ∀ l : List Ins3, -(l.length : Int) ≤ bal l ∧ bal l ≤ l.length
  | [] => by simp [bal]
  | x :: l => by
    have := bal_bd l
    rw [bal, List.length_cons]
    split <;> split <;> omega
theorem bal_step {l : List Ins3} {k : Nat} {x : Ins3} (h : l[k]? = some x) : bal (l.take (k + 1)) = bal (l.take k) + ((if isBeg x.1 = true then 1 else 0) - (if x.1 = 11 then 1 else 0)) := by
  rw [List.take_add_one, h, bal_app]
  simp [bal]
/-- what is told of one instruction of a right shape -/
theorem one_at {l : List Ins3} (h : shapeOk l = true) {k : Nat} {op a b : Int} (hx : l[k]? = some (op, a, b)) :
    ((op = 2 ∨ op = 3 ∨ op = 4) ∧ (k : Int) < endOf l k ∧ (elseOf l k = -1 ∨ (op = 4 ∧ (k : Int) < elseOf l k ∧ elseOf l k < endOf l k)) ∧ bal (l.take (k + 1)) = bal (l.take k) + 1) ∨
    (op = 11 ∧ endOf l k = -1 ∧ elseOf l k = -1 ∧ bal (l.take (k + 1)) = bal (l.take k) - 1) ∨
    (op ≠ 2 ∧ op ≠ 3 ∧ op ≠ 4 ∧ op ≠ 11 ∧ endOf l k = -1 ∧ elseOf l k = -1 ∧ bal (l.take (k + 1)) = bal (l.take k)) := by
  have hk : k < l.length := (List.getElem?_eq_some_iff.1 hx).1
  have hg : l[k] = (op, a, b) := (List.getElem?_eq_some_iff.1 hx).2
  have h1 := shape_each h k hk
  have h2 := endOf_bd l k
  have h3 := elseOf_bd l k
  have h4 := bal_step hx
  rw [hg] at h1
  simp only [Int.toNat_natCast, List.getD_eq_getElem?_getD, hx, Option.getD_some] at h3
  simp only [] at h1 h4
  by_cases hb : isBeg op = true
  · have hop : op = 2 ∨ op = 3 ∨ op = 4 := by simpa [isBeg, or_assoc] using hb
    have := h1.1 hb
    rw [if_pos hb, if_neg (by omega)] at h4
    exact .inl ⟨hop, this, h3, by omega⟩
  · have hn : ¬ ((k : Int) < endOf l k) := fun hlt => hb (h1.2 hlt)
    have he : endOf l k = -1 := by omega
    have ho : op ≠ 2 ∧ op ≠ 3 ∧ op ≠ 4 := by
      simp only [isBeg, Bool.or_eq_true, beq_iff_eq] at hb
      omega
    have hl : elseOf l k = -1 := by omega
    rw [if_neg hb] at h4
    by_cases h11 : op = 11
    · rw [if_pos h11] at h4
      exact .inr (.inl ⟨h11, he, hl, by omega⟩)
    · rw [if_neg h11] at h4
      exact .inr (.inr ⟨ho.1, ho.2.1, ho.2.2, h11, he, hl, by omega⟩)
set_option maxRecDepth 100000 in
theorem drawShape_c (A : Option Addr) (n c : Nat) (bs : List Int) (w : World) (hr : Rd w w.heap.size 1 A n (by8 bs)) (hn : n ≤ 1048576) (hx : ∀ x ∈ bs, 0 ≤ x ∧ x ≤ 255) :
    Calls Try.prog 4 #[.slice A n c] w (SomeBody w) := by
  have HC := hide (new_c A n c bs w hr hn hx)
  clear hr hn hx
  go_enter Try.func4, Try.ntmps4
  go_wp2_with fail
  refine HC.out.mono ?_
  rintro e w1 ⟨g, rfl, hg, hc1, hb1⟩
  go_wp2_with fail
  refine (anybody_g g A n c bs w1 hc1).mono ?_
  rintro e w2 ⟨B, m, d, l, rfl, hm, hrd, hgr⟩
  have HB := hide (show Below w.heap.size w w2 from hb1.grown hgr hb1.size (fun b e => by injection e with e; omega))
  have HR := hide hrd
  clear hc1 hb1 hrd hgr
  go_wp2_with fail
  go_ret
  exact ⟨B, m, d, l, rfl, hm, HR.out, HB.out⟩
theorem fnShape_long (A : Option Addr) (n c : Nat) (w : World) (hn : 1048576 < n) (hm : n ≤ 9223372036854775807) : Calls Try.prog 3 #[.slice A n c] w fun e w' => e = .returned (.bool true) ∧ Below w.heap.size w w' := by
  have hn' : (1048576 : Int) < n := by omega
  clear hn
  go_enter Try.func3, Try.ntmps3
  go_wp2_with fail
  go_ret
  exact ⟨rfl, Below.refl _ _⟩
set_option maxRecDepth 100000 in
set_option maxHeartbeats 4000000 in
theorem fnShape_walk (A0 : Option Addr) (n0 c0 : Nat) (bs0 : List Int) (w : World) (w0 : IsNums .u8 w A0 n0 c0 bs0) : Calls Try.prog 3 #[.slice A0 n0 c0] w fun e w' => e = .returned (.bool true) ∧ Below w.heap.size w w' := by
  have hr := w0.rd
  have hx : ∀ x ∈ bs0, 0 ≤ x ∧ x ≤ 255 := fun x h => u8_of_wf (w0.wf x h)
  have hm : n0 ≤ 9223372036854775807 := by have := w0.max; have := w0.le; unfold maxLen at *; omega
  by_cases hn : 1048576 < n0
  · exact fnShape_long A0 n0 c0 w hn hm
  have hn' : (n0 : Int) ≤ 1048576 := by omega
  have HD := hide (drawShape_c A0 n0 c0 bs0 w hr (by omega) hx)
  clear hr hx hm hn w0
  go_enter Try.func3, Try.ntmps3
  go_wp2_with fail
  refine HD.out.mono ?_
  rintro e w1 ⟨B, m, d, l, rfl, hm, hrd, hb1⟩
  have HR := hide hrd
  have HM := hide (show m ≤ 1048576 by omega)
  have HB1 := hide hb1
  have HL := hide (rd_ins hrd)
  have hm' : (m : Int) ≤ 8000 := by omega
  clear hrd hb1 HD hm
  go_wp2_with fail
  obtain ⟨ok, hok⟩ : ∃ ok, shapeOk l = ok := ⟨_, rfl⟩
  have HOK := hide hok
  have C1 := hide (iShapeOk B m d l w1 HR.out HM.out)
  rw [hok] at C1
  refine C1.out.mono ?_
  rintro e w2 ⟨rfl, hb2⟩
  have HR2 := hide (HR.out.bel hb2)
  have HB2 := hide (bel_step HB1.out hb2 HB1.out.size)
  clear hb2 C1 HB1 HR
  have hoo : (ok != ok) = false := by simp
  go_wp2_with fail
  have C2 := hide (sShapeOk B m d l w2 HR2.out HM.out)
  rw [hok] at C2
  clear hok
  refine C2.out.mono ?_
  rintro e w3 ⟨rfl, hb3⟩
  have HR3 := hide (HR2.out.bel hb3)
  have HB3 := hide (bel_step HB2.out hb3 HB2.out.size)
  clear hb3 C2 HB2 HR2
  cases ok
  · go_wp2_with fail
    go_ret
    exact ⟨rfl, HB3.out⟩
  go_wp2_with fail
  go_loopw [5, 26] (fun s i wr => ∃ k : Nat, k ≤ m ∧ i = .int .i64 k ∧ s = .int .i64 (bal (l.take k)) ∧ Hid (Below w.heap.size w wr) ∧ Hid (Below w3.heap.size w3 wr)) (fun _ i _ => m - (intOf i).toNat)
  case atStart => exact ⟨0, Nat.zero_le _, rfl, rfl, HB3, hide (Below.refl _ _)⟩
  case round =>
    obtain ⟨k, hk, rfl, rfl, HB, HW⟩ := hrel
    by_cases hlt : k < m
    · obtain ⟨b, off, rfl, op, a1, b1, hx, c0, c1, c2, hbb⟩ := rd_cell (wr := wr) HR3.out k hlt (fun p hp => HW.out.cell hp)
      have hi0 : (0 : Int) ≤ k := by omega
      have hi1 : (k : Int) < m := by omega
      have h1 := one_at HOK.out hx
      have hz := bal_bd (l.take k)
      rw [List.length_take] at hz
      have C1 := hide (fun W hr => iEndOf (some ⟨b, off, none⟩) m d l k W hr HM.out)
      have C2 := hide (fun W hr => iElseOf (some ⟨b, off, none⟩) m d l k W hr HM.out)
      have HRw := hide (HR3.out.bel HW.out)
      obtain ⟨E, hE⟩ : ∃ E, endOf l k = E := ⟨_, rfl⟩
      obtain ⟨O, hO⟩ : ∃ O, elseOf l k = O := ⟨_, rfl⟩
      obtain ⟨z, hzz⟩ : ∃ z, bal (l.take k) = z := ⟨_, rfl⟩
      obtain ⟨z2, hz2⟩ : ∃ z2, bal (l.take (k + 1)) = z2 := ⟨_, rfl⟩
      rw [hE] at h1 C1
      rw [hO] at h1 C2
      rw [hzz, hz2] at h1
      rw [hzz] at hz ⊢
      have HZ2 := hide hz2
      have hzl : -8000 ≤ z ∧ z ≤ 8000 := by omega
      obtain ⟨hz0, hz1⟩ := hzl
      clear hz hzz hz2 hE hO hx
      have HRa := hide (HRw.out.alloc (Nat.le_refl _) (.cells #[.int .i64 op, .int .i64 a1, .int .i64 b1] 27))
      have HRa2 := hide (HRa.out.up (show wr.heap.size ≤ (wr.alloc (.cells #[.int .i64 op, .int .i64 a1, .int .i64 b1] 27)).heap.size by simp))
      have HBa := hide (HB.out.alloc HB.out.size (.cells #[.int .i64 op, .int .i64 a1, .int .i64 b1] 27))
      have HWa := hide (HW.out.alloc HW.out.size (.cells #[.int .i64 op, .int .i64 a1, .int .i64 b1] 27))
      clear HRa HRw
      have hcases : (op = 2 ∧ (k : Int) < E ∧ O = -1 ∧ z2 = z + 1) ∨ (op = 3 ∧ (k : Int) < E ∧ O = -1 ∧ z2 = z + 1) ∨ (op = 4 ∧ (k : Int) < E ∧ O = -1 ∧ z2 = z + 1) ∨ (op = 4 ∧ (k : Int) < E ∧ (k : Int) < O ∧ O < E ∧ z2 = z + 1) ∨
          (op = 11 ∧ E = -1 ∧ O = -1 ∧ z2 = z - 1) ∨ (op ≠ 2 ∧ op ≠ 3 ∧ op ≠ 4 ∧ op ≠ 11 ∧ E = -1 ∧ O = -1 ∧ z2 = z) := by omega
      clear h1
      rcases hcases with ⟨rfl, hE, rfl, rfl⟩ | ⟨rfl, hE, rfl, rfl⟩ | ⟨rfl, hE, rfl, rfl⟩ | ⟨rfl, hE, hO1, hO2, rfl⟩ | ⟨rfl, rfl, rfl, rfl⟩ | ⟨h2, h3, h4, h11, rfl, rfl, rfl⟩
      · have gE : decide ((k : Int) < E) = true := by simpa using hE
        have gE0 : (0 : Int) ≤ E := by omega
        go_wp2_with fail
        refine (C1.out _ HRa2.out).mono ?_
        rintro e w' ⟨rfl, rfl⟩
        go_wp2_with fail
        refine (C2.out _ HRa2.out).mono ?_
        rintro e w' ⟨rfl, rfl⟩
        go_wp2_with fail
        go_roundw
        case rel => exact ⟨k + 1, by omega, by go_num, by rw [HZ2.out], HBa, HWa⟩
        case measure => simp [intOf]; omega
      · have gE : decide ((k : Int) < E) = true := by simpa using hE
        have gE0 : (0 : Int) ≤ E := by omega
        go_wp2_with fail
        refine (C1.out _ HRa2.out).mono ?_
        rintro e w' ⟨rfl, rfl⟩
        go_wp2_with fail
        refine (C2.out _ HRa2.out).mono ?_
        rintro e w' ⟨rfl, rfl⟩
        go_wp2_with fail
        go_roundw
        case rel => exact ⟨k + 1, by omega, by go_num, by rw [HZ2.out], HBa, HWa⟩
        case measure => simp [intOf]; omega
      · have gE : decide ((k : Int) < E) = true := by simpa using hE
        have gE0 : (0 : Int) ≤ E := by omega
        go_wp2_with fail
        refine (C1.out _ HRa2.out).mono ?_
        rintro e w' ⟨rfl, rfl⟩
        go_wp2_with fail
        refine (C2.out _ HRa2.out).mono ?_
        rintro e w' ⟨rfl, rfl⟩
        go_wp2_with fail
        go_roundw
        case rel => exact ⟨k + 1, by omega, by go_num, by rw [HZ2.out], HBa, HWa⟩
        case measure => simp [intOf]; omega
      · have gE : decide ((k : Int) < E) = true := by simpa using hE
        have gE0 : (0 : Int) ≤ E := by omega
        have gO0 : (0 : Int) ≤ O := by omega
        have gO1 : ¬ O ≤ (k : Int) := by omega
        have gO2 : ¬ E ≤ O := by omega
        go_wp2_with fail
        refine (C1.out _ HRa2.out).mono ?_
        rintro e w' ⟨rfl, rfl⟩
        go_wp2_with fail
        refine (C2.out _ HRa2.out).mono ?_
        rintro e w' ⟨rfl, rfl⟩
        go_wp2_with fail
        go_roundw
        case rel => exact ⟨k + 1, by omega, by go_num, by rw [HZ2.out], HBa, HWa⟩
        case measure => simp [intOf]; omega
      · skip
        go_wp2_with fail
        refine (C1.out _ HRa2.out).mono ?_
        rintro e w' ⟨rfl, rfl⟩
        go_wp2_with fail
        refine (C2.out _ HRa2.out).mono ?_
        rintro e w' ⟨rfl, rfl⟩
        go_wp2_with fail
        go_roundw
        case rel => exact ⟨k + 1, by omega, by go_num, by rw [HZ2.out], HBa, HWa⟩
        case measure => simp [intOf]; omega
      · have b2 : (op == 2) = false := by simpa using h2
        have b3 : (op == 3) = false := by simpa using h3
        have b4 : (op == 4) = false := by simpa using h4
        have b11 : (op == 11) = false := by simpa using h11
        go_wp2_with fail
        refine (C1.out _ HRa2.out).mono ?_
        rintro e w' ⟨rfl, rfl⟩
        go_wp2_with fail
        refine (C2.out _ HRa2.out).mono ?_
        rintro e w' ⟨rfl, rfl⟩
        go_wp2_with fail
        go_roundw
        case rel => exact ⟨k + 1, by omega, by go_num, by rw [HZ2.out], HBa, HWa⟩
        case measure => simp [intOf]; omega
    · obtain rfl : k = m := by omega
      have hbal : bal (l.take k) = 0 := by
        rw [List.take_of_length_le (by have := HL.out; omega)]
        have := shape_bal l [] HOK.out
        simpa using this
      rw [hbal]
      go_wp2_with fail
      go_ret
      exact ⟨rfl, HB.out⟩
end Go.Proofs.Ytbedkcedooemdaa
