/- What the reference's OpName hands back: a contract; its tables. -/
import Derived.Test.YtiinkfejdnfonaaGreatDoorInts
import Derived.Test.YtiinkfejdnfonaaGreatDoorOpN
namespace Go.Proofs.YtiinkfejdnfonaaGreatDoor.Ops
open Go.RowKit Go.Proofs.YtiinkfejdnfonaaGreatDoor.Num Go.Proofs.YtiinkfejdnfonaaGreatDoor.Mem
set_option linter.unusedVariables false

def strC (l : List ByteArray) : List Value := l.map Value.string
theorem get_str {w wr : World} {B n : Nat} {A : Option Addr} {l : List ByteArray} (h : Rd w B 1 A n (strC l)) (k : Nat) (hk : k < n) (hc : ∀ p : Addr, p.block < B → wr.cell? p = w.cell? p) :
    ∃ b off, A = some ⟨b, off, none⟩ ∧ ∃ x, l[k]? = some x ∧ wr.cell? ⟨b, off + k, none⟩ = some (.string x) ∧ b < B := by
  obtain ⟨b, off, rfl, hb, hcell⟩ := h.2 (by omega)
  have hl : k < l.length := by have := h.1; simp only [strC, List.length_map] at this; omega
  exact ⟨b, off, rfl, l[k], List.getElem?_eq_getElem hl, (hc _ hb).trans (hcell _ _ (by simp [strC, hl])), hb⟩
theorem str_add (a b : ByteArray) (h : a.size + b.size ≤ 100000) : ∀ w : World, (Op.stringOp .add a b).run Tryz.prog w = .ok (.string (a ++ b)) w := by
  intro w
  have h2 : ¬ (((a.size + b.size : Nat) : Int) > IntKind.i64.max) := by
    have : IntKind.i64.max = 9223372036854775807 := by decide
    omega
  simp only [Op.stringOp, h2, if_false]
  rfl
theorem i32_size : i32.size = 4 := rfl

theorem l03Ops_c (w : World) : Calls Tryz.prog 132 #[] w (Fresh 3 1 24 (in64 ops1) w) := by
  go_enter Tryz.func132, Tryz.ntmps132
  go_wp2_with fail
  go_ret
  exact ⟨_, _, rfl, World.ownsRow_lit w _ 24 (Nat.le_refl _) (by decide) rfl, (Below.refl _ _).alloc (Nat.le_refl _) _⟩
theorem l03Names_c (w : World) : Calls Tryz.prog 133 #[] w (Fresh 9 1 24 (strC names1) w) := by
  go_enter Tryz.func133, Tryz.ntmps133
  go_wp2_with fail
  go_ret
  exact ⟨_, _, rfl, World.ownsRow_lit w _ 24 (Nat.le_refl _) (by decide) rfl, (Below.refl _ _).alloc (Nat.le_refl _) _⟩
theorem l03Compares_c (w : World) : Calls Tryz.prog 134 #[] w (Fresh 9 1 10 (strC cmps) w) := by
  go_enter Tryz.func134, Tryz.ntmps134
  go_wp2_with fail
  go_ret
  exact ⟨_, _, rfl, World.ownsRow_lit w _ 10 (Nat.le_refl _) (by decide) rfl, (Below.refl _ _).alloc (Nat.le_refl _) _⟩
theorem l03Numerics_c (w : World) : Calls Tryz.prog 135 #[] w (Fresh 9 1 18 (strC nums) w) := by
  go_enter Tryz.func135, Tryz.ntmps135
  go_wp2_with fail
  go_ret
  exact ⟨_, _, rfl, World.ownsRow_lit w _ 18 (Nat.le_refl _) (by decide) rfl, (Below.refl _ _).alloc (Nat.le_refl _) _⟩
theorem sOpName (op : Int) (w : World) : Calls Tryz.prog 121 #[.int .i64 op] w fun e w' => e = .returned (.string (opName op)) ∧ Below w.heap.size w w' := by
  obtain ⟨S, hS⟩ : ∃ S, opName op = S := ⟨_, rfl⟩
  rw [hS]
  have HS := hide hS
  clear hS
  go_enter Tryz.func121, Tryz.ntmps121
  go_wp2_with fail
  refine (l03Ops_c w).mono ?_
  rintro e w1 ⟨A1, c1, rfl, ho1, hb1⟩
  have R1 := hide ho1.rd
  have B1 := hide hb1
  clear ho1 hb1
  go_wp2_with fail
  go_loop [7] (fun i => ∃ k : Nat, k ≤ 24 ∧ i = .int .i64 k ∧ Hid (∀ j, j < k → ops1[j]? ≠ some op)) (fun i => 24 - (intOf i).toNat)
  case atStart => exact ⟨0, Nat.zero_le _, rfl, hide (fun j hj => by omega)⟩
  case round =>
    obtain ⟨k, hk, rfl, HN⟩ := hrel
    by_cases hlt : k < 24
    · obtain ⟨b, off, rfl, x, hx, hc, _⟩ := get_in64 (wr := w1) R1.out k hlt (fun _ _ => rfl)
      have HX := hide hx
      clear hx
      by_cases hxo : x = op
      · subst hxo
        go_wp2_with fail
        refine (l03Names_c w1).mono ?_
        rintro e w2 ⟨A2, c2, rfl, ho2, hb2⟩
        have R2 := hide ho2.rd
        have B2 := hide (bel_step B1.out hb2 B1.out.size)
        clear ho2 hb2 hc
        obtain ⟨b2, off2, rfl, y, hy, hc2, _⟩ := get_str (wr := w2) R2.out k hlt (fun _ _ => rfl)
        have hyS : y = S := by
          have := name_at1 HX.out
          rw [hy] at this
          injection this with this
          rw [this, HS.out]
        subst hyS
        clear hy
        go_wp2_with fail
        go_ret
        exact ⟨rfl, B2.out⟩
      · go_wp2_with fail
        go_round
        case rel =>
          refine ⟨k + 1, by omega, by go_num, hide (fun j hj => ?_)⟩
          by_cases hjk : j < k
          · exact HN.out j hjk
          · obtain rfl : j = k := by omega
            rw [HX.out]
            exact fun e => hxo (Option.some.inj e)
        case measure => simp [intOf]; omega
    · obtain rfl : k = 24 := by omega
      have hno : op ∉ ops1 := fun h => by
        obtain ⟨j, hj, he⟩ := List.getElem_of_mem h
        exact HN.out j hj (by rw [List.getElem?_eq_getElem hj, he])
      by_cases h2 : 70 ≤ op ∧ op ≤ 79
      · obtain ⟨h20, h21⟩ := h2
        obtain ⟨c, hc, hname, hcs⟩ := name_at2 h20 h21
        have hadd : ∀ w : World, (Op.stringOp .add ⟨#[105, 51, 50, 46]⟩ c).run Tryz.prog w = .ok (.string (i32 ++ c)) w := str_add i32 c (by rw [i32_size]; omega)
        have HC := hide hc
        have hSc : i32 ++ c = S := by rw [← HS.out, hname]
        rw [hSc] at hadd
        have hn0 : (0 : Int) ≤ op - 70 := by omega
        have hn1 : op - 70 < 10 := by omega
        have hnn : (op - 70).toNat < 10 := by omega
        clear hc hname hcs hSc hno
        go_wp2_with fail
        refine (l03Compares_c w1).mono ?_
        rintro e w2 ⟨A2, c2, rfl, ho2, hb2⟩
        have R2 := hide ho2.rd
        have B2 := hide (bel_step B1.out hb2 B1.out.size)
        clear ho2 hb2
        obtain ⟨b2, off2, rfl, y, hy, hc2, _⟩ := get_str (wr := w2) R2.out (op - 70).toNat hnn (fun _ _ => rfl)
        have hyc : y = c := by
          rw [HC.out] at hy
          exact (Option.some.inj hy).symm
        subst hyc
        clear hy
        go_wp2_with fail
        go_ret
        exact ⟨rfl, B2.out⟩

      · have hd2 : (decide (70 ≤ op) && decide (op ≤ 79)) = false := by
          rw [← Bool.decide_and]
          exact decide_eq_false h2
        by_cases h3 : 103 ≤ op ∧ op ≤ 120
        · obtain ⟨h20, h21⟩ := h3
          clear h2 hd2
          obtain ⟨c, hc, hname, hcs⟩ := name_at3 h20 h21
          have hadd : ∀ w : World, (Op.stringOp .add ⟨#[105, 51, 50, 46]⟩ c).run Tryz.prog w = .ok (.string (i32 ++ c)) w := str_add i32 c (by rw [i32_size]; omega)
          have HC := hide hc
          have hSc : i32 ++ c = S := by rw [← HS.out, hname]
          rw [hSc] at hadd
          have hn0 : (0 : Int) ≤ op - 103 := by omega
          have hn1 : op - 103 < 18 := by omega
          have hnn : (op - 103).toNat < 18 := by omega
          clear hc hname hcs hSc hno
          go_wp2_with fail
          refine (l03Numerics_c w1).mono ?_
          rintro e w2 ⟨A2, c2, rfl, ho2, hb2⟩
          have R2 := hide ho2.rd
          have B2 := hide (bel_step B1.out hb2 B1.out.size)
          clear ho2 hb2
          obtain ⟨b2, off2, rfl, y, hy, hc2, _⟩ := get_str (wr := w2) R2.out (op - 103).toNat hnn (fun _ _ => rfl)
          have hyc : y = c := by
            rw [HC.out] at hy
            exact (Option.some.inj hy).symm
          subst hyc
          clear hy
          go_wp2_with fail
          go_ret
          exact ⟨rfl, B2.out⟩

        · have hSn : S = ⟨#[]⟩ := by
            rw [← HS.out]
            exact name_none (fun h => by rcases mem_all.1 h with h | h | h; exact hno h; exact h2 h; exact h3 h)
          subst hSn
          clear hno
          rcases (by omega : op < 70 ∨ (79 < op ∧ op < 103) ∨ 120 < op) with h | ⟨h, h'⟩ | h
          all_goals
            clear h2 h3 hd2
            go_wp2_with fail
            go_ret
            exact ⟨rfl, B1.out⟩
end Go.Proofs.YtiinkfejdnfonaaGreatDoor.Ops
