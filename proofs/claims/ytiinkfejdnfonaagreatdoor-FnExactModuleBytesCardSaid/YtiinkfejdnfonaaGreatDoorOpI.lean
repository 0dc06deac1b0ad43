/- The program's list of all operations, and where a number stands in a list: a contract each. -/
import Derived.Test.YtiinkfejdnfonaaGreatDoorOpC
import Derived.Test.YtiinkfejdnfonaaGreatDoorNumC
namespace Go.Proofs.YtiinkfejdnfonaaGreatDoor.Ops
open Go.RowKit Go.Proofs.YtiinkfejdnfonaaGreatDoor.Num Go.Proofs.YtiinkfejdnfonaaGreatDoor.NumC Go.Proofs.YtiinkfejdnfonaaGreatDoor.Mem
set_option linter.unusedVariables false

theorem EIo : Elem Tryz.prog 146 3 (.int .i64 0) 1 8 := Elem.mk_ Tryz.underlying146 (by kernel_rfl) rfl (by omega) (by omega)
theorem one64o (x : Int) : ∀ u ∈ (#[Value.int .i64 x] : Array Value).toList, u.oneCell' = true := by
  intro u hu
  simp only [List.mem_singleton] at hu
  subst hu
  rfl
theorem in64_appo (xs ys : List Int) : in64 (xs ++ ys) = in64 xs ++ in64 ys := by simp [in64]
/-- the first place of a value in a list, told by what is known of it -/
def First (l : List Int) (v r : Int) : Prop := (r = -1 ∧ v ∉ l) ∨ (∃ k : Nat, r = k ∧ l[k]? = some v ∧ ∀ j, j < k → l[j]? ≠ some v)
theorem index_int (A : Option Addr) (n c : Nat) (l : List Int) (v : Int) (w : World) (hr : Rd w w.heap.size 1 A n (in64 l)) (hn : n ≤ 1048576) :
    Calls Tryz.prog 137 #[.slice A n c, .int .i64 v] w fun e w' => ∃ r, e = .returned (.int .i64 r) ∧ First l v r ∧ Below w.heap.size w w' := by
  have hn' : (n : Int) ≤ 1048576 := by omega
  have hl : l.length = n := by have := hr.1; simp only [in64, List.length_map] at this; omega
  have HR := hide hr
  have HL := hide hl
  clear hr hn hl
  go_enter Tryz.func137, Tryz.ntmps137
  go_wp2_with fail
  go_loopw [8] (fun i wr => ∃ k : Nat, k ≤ n ∧ i = .int .i64 k ∧ Hid (∀ j, j < k → l[j]? ≠ some v) ∧ ∃ q, wr = w.drewN q) (fun i _ => n - (intOf i).toNat)
  case atStart => exact ⟨0, Nat.zero_le _, rfl, hide (fun j hj => by omega), 0, rfl⟩
  case round =>
    obtain ⟨k, hk, rfl, HE, q, rfl⟩ := hrel
    by_cases hlt : k < n
    · obtain ⟨b, off, rfl, x, hx, h1, _⟩ := get_in64 (wr := w) HR.out k hlt (fun _ _ => rfl)
      have hi0 : (k : Int) < (n : Int) := by omega
      have hi1 : (0 : Int) ≤ (k : Int) := by omega
      have HXk := hide hx
      clear hx
      by_cases hxy : v = x
      · subst hxy
        go_wp2_with fail
        go_ret
        exact ⟨k, rfl, .inr ⟨k, rfl, HXk.out, HE.out⟩, bel_drewN (Below.refl _ _) _⟩
      · have hxb : (v == x) = false := by simpa using hxy
        go_wp2_with fail
        go_roundw
        case rel =>
          refine ⟨k + 1, by omega, by go_num, hide (fun j hj => ?_), _, rfl⟩
          by_cases hjk : j < k
          · exact HE.out j hjk
          · obtain rfl : j = k := by omega
            rw [HXk.out]
            exact fun e => hxy (Option.some.inj e).symm
        case measure => simp [intOf]; omega
    · obtain rfl : k = n := by omega
      go_wp2_with fail
      go_ret
      refine ⟨-1, rfl, .inl ⟨rfl, fun h => ?_⟩, bel_drewN (Below.refl _ _) _⟩
      obtain ⟨j, hj, he⟩ := List.getElem_of_mem h
      exact HE.out j (by have := HL.out; omega) (by rw [List.getElem?_eq_getElem hj, he])
theorem ops_more {xs : List Int} {m : Nat} (h : m < xs.length) : xs.take m ++ [xs[m]] = xs.take (m + 1) := List.take_append_getElem h
theorem all76 : allOps.length = 52 := rfl
theorem all_mid (k : Nat) (h : k < 10) : allOps.take (24 + k) ++ [70 + (k : Int)] = allOps.take (24 + k + 1) := by
  rcases (by omega : k = 0 ∨ k = 1 ∨ k = 2 ∨ k = 3 ∨ k = 4 ∨ k = 5 ∨ k = 6 ∨ k = 7 ∨ k = 8 ∨ k = 9) with rfl | rfl | rfl | rfl | rfl | rfl | rfl | rfl | rfl | rfl <;> rfl
theorem all_end (k : Nat) (h : k < 18) : allOps.take (34 + k) ++ [103 + (k : Int)] = allOps.take (34 + k + 1) := by
  rcases (by omega : k = 0 ∨ k = 1 ∨ k = 2 ∨ k = 3 ∨ k = 4 ∨ k = 5 ∨ k = 6 ∨ k = 7 ∨ k = 8 ∨ k = 9 ∨ k = 10 ∨ k = 11 ∨ k = 12 ∨ k = 13 ∨ k = 14 ∨ k = 15 ∨ k = 16 ∨ k = 17) with rfl | rfl | rfl | rfl | rfl | rfl | rfl | rfl | rfl | rfl | rfl | rfl | rfl | rfl | rfl | rfl | rfl | rfl <;> rfl
set_option maxRecDepth 100000 in
theorem opCodes_c (w : World) : Calls Tryz.prog 127 #[] w (Fresh 3 1 52 (in64 allOps) w) := by
  go_enter Tryz.func127, Tryz.ntmps127
  go_wp2_with fail
  go_loopw [1, 2] (fun s i wr => ∃ (k : Nat) (A : Option Addr) (c : Nat), k ≤ 10 ∧ i = .int .i64 (70 + k) ∧ s = .slice A (24 + k) c ∧ Hid (Ow wr w.heap.size 3 1 A (24 + k) c (in64 (allOps.take (24 + k)))) ∧ Hid (Below w.heap.size w wr)) (fun _ i _ => 80 - (intOf i).toNat)
  case atStart => exact ⟨0, _, _, Nat.zero_le _, rfl, rfl, hide (World.ownsRow_lit w _ 24 (Nat.le_refl _) (by decide) rfl), hide ((Below.refl _ _).alloc (Nat.le_refl _) _)⟩
  case round =>
    obtain ⟨k, A, c, hk, rfl, rfl, HO, HB⟩ := hrel
    by_cases hlt : k < 10
    · have hi : (70 : Int) + k ≤ 79 := by omega
      go_wp2_with (at_builtin; refine app1 rfl _ _ rfl rfl rfl EIo HO.out rfl (one64o _) (by omega) HB.out.size ?_; intro B3 d3 w3 ho3 hg3 hl3)
      go_roundw
      case rel =>
        refine ⟨k + 1, B3, d3, by omega, by go_num, rfl, hide ?_, hide (bel_grown HB.out hg3 HB.out.size (fun g hg => (HO.out.blk_lt g hg).1))⟩
        rw [← Nat.add_assoc, ← all_mid k hlt, in64_appo]
        exact ho3
      case measure => simp [intOf]; omega
    · obtain rfl : k = 10 := by omega
      go_wp2_with fail
      clear hlt hk
      have HO34 := hide (show Ow wr w.heap.size 3 1 A 34 c (in64 (allOps.take 34)) from HO.out)
      clear HO
      go_loopw [1, 3] (fun s i wq => ∃ (k : Nat) (A : Option Addr) (c : Nat), k ≤ 18 ∧ i = .int .i64 (103 + k) ∧ s = .slice A (34 + k) c ∧ Hid (Ow wq w.heap.size 3 1 A (34 + k) c (in64 (allOps.take (34 + k)))) ∧ Hid (Below w.heap.size w wq)) (fun _ i _ => 130 - (intOf i).toNat)
      case atStart => exact ⟨0, A, c, Nat.zero_le _, rfl, rfl, HO34, HB⟩
      case round =>
        obtain ⟨k, A, c, hk, rfl, rfl, HO, HB⟩ := hrel
        by_cases hlt : k < 18
        · have hi : (103 : Int) + k ≤ 120 := by omega
          go_wp2_with (at_builtin; refine app1 rfl _ _ rfl rfl rfl EIo HO.out rfl (one64o _) (by omega) HB.out.size ?_; intro B3 d3 w3 ho3 hg3 hl3)
          go_roundw
          case rel =>
            refine ⟨k + 1, by omega, by go_num, B3, d3, ⟨rfl, by omega, rfl⟩, hide ?_, hide (bel_grown HB.out hg3 HB.out.size (fun g hg => (HO.out.blk_lt g hg).1))⟩
            rw [← Nat.add_assoc, ← all_end k hlt, in64_appo]
            exact ho3
          case measure => simp [intOf]; omega
        · obtain rfl : k = 18 := by omega
          go_wp2_with fail
          go_ret
          exact ⟨A, c, rfl, HO.out, HB.out⟩
theorem contains_ops (A : Option Addr) (c : Nat) (v : Int) (w : World) (hr : Rd w w.heap.size 1 A 52 (in64 allOps)) :
    Calls Tryz.prog 126 #[.slice A 52 c, .int .i64 v] w fun e w' => e = .returned (.bool (known v)) ∧ Below w.heap.size w w' := by
  have HR := hide hr
  clear hr
  go_enter Tryz.func126, Tryz.ntmps126
  go_wp2_with fail
  refine (index_int A 52 c allOps v w HR.out (by omega)).mono ?_
  rintro e w1 ⟨r, rfl, hf, hb⟩
  go_wp2_with fail
  go_ret
  refine ⟨?_, hb⟩
  have hk : known v = decide (r ≥ 0) := by
    rcases hf with ⟨rfl, hn⟩ | ⟨k, rfl, hk, _⟩
    · rw [known_false.2 hn]; rfl
    · rw [known_iff.2 (List.mem_of_getElem? hk)]
      symm
      exact decide_eq_true (by omega)
  rw [hk]
  rfl
end Go.Proofs.YtiinkfejdnfonaaGreatDoor.Ops
