/- What NumText computes, in the program and in the reference: a contract each. -/
import Derived.Test.YtiinkfejdnfonaaDoorNumC
import Derived.Test.YtiinkfejdnfonaaDoorMem
import Derived.Test.YtiinkfejdnfonaaDoorShelf
import Derived.Laws.BytesArg
import Derived.Deep.RegionHeld
namespace Go.Proofs.YtiinkfejdnfonaaDoor.Dig
open Go.RowKit Go.Proofs.YtiinkfejdnfonaaDoor.Num Go.Proofs.YtiinkfejdnfonaaDoor.NumC Go.Proofs.YtiinkfejdnfonaaDoor.Mem

theorem conv_cell (w : World) (b : Nat) (x : Int) (h : w.cell? ⟨b, 0, none⟩ = some (.int .u8 x)) :
    (convert 87 9 (.slice (some ⟨b, 0, none⟩) 1 1)).run Tryd.prog w = .ok (.string (strOfNums [x])) w := by
  refine run_convert_bytes_arg w _ _ Tryd.underlying87 Tryd.underlying5 b 0 1 1 [x] rfl (fun i hi => ?_) _ Tryd.underlying9
  obtain rfl : i = 0 := by omega
  simpa using h
theorem conv_new (w : World) (x : Int) :
    (convert 87 9 (.slice (some ⟨w.heap.size, 0, none⟩) 1 1)).run Tryd.prog (w.alloc (.cells #[.int .u8 x] 5)) = .ok (.string (strOfNums [x])) (w.alloc (.cells #[.int .u8 x] 5)) :=
  conv_cell _ _ x (by rw [cell_of_row _ w.heap.size 0 _ _ (0, 0) (heap_alloc_new w _)]; rfl)
theorem cell_new (w : World) (x : Int) : (w.alloc (.cells #[.int .u8 x] 5)).cell? ⟨w.heap.size, 0, none⟩ = some (.int .u8 x) := by
  rw [cell_of_row _ w.heap.size 0 _ _ (0, 0) (heap_alloc_new w _)]
  rfl
theorem conv_kept {X w' : World} {b : Nat} {x : Int} (hb : Below X.heap.size X w') (hX : X.cell? ⟨b, 0, none⟩ = some (.int .u8 x)) :
    (convert 87 9 (.slice (some ⟨b, 0, none⟩) 1 1)).run Tryd.prog w' = .ok (.string (strOfNums [x])) w' := by
  have hlt : b < X.heap.size := by
    rcases Nat.lt_or_ge b X.heap.size with h | h
    · exact h
    · unfold World.cell? at hX
      rw [Array.getElem?_eq_none h] at hX
      simp at hX
  exact conv_cell _ _ x (by rw [hb.cell hlt]; exact hX)
theorem str_one (x : Int) : (strOfNums [x]).size = 1 := by simp [strOfNums, ByteArray.size]
theorem str_add (a b : ByteArray) (h : a.size + b.size ≤ 1000) : ∀ w : World, (Op.stringOp .add a b).run Tryd.prog w = .ok (.string (a ++ b)) w := by
  intro w
  have h2 : ¬ (((a.size + b.size : Nat) : Int) > IntKind.i64.max) := by
    have : IntKind.i64.max = 9223372036854775807 := by decide
    omega
  simp only [Op.stringOp, h2, if_false]
  rfl
set_option maxRecDepth 100000 in
theorem sDigits_small (n : Int) (h0 : 0 ≤ n) (h : n < 10) (w : World) : Calls Tryd.prog 70 #[.int .i64 n] w fun e w' => e = .returned (.string (strOfNums [48 + n])) ∧ Below w.heap.size w w' := by
  have K := conv_new w (48 + n)
  go_enter Tryd.func70, Tryd.ntmps70
  go_wp2_with fail
  go_ret
  exact ⟨rfl, (Below.refl w.heap.size w).alloc (Nat.le_refl _) _⟩
set_option maxRecDepth 100000 in
theorem sDigits_big (n q r : Int) (S : ByteArray) (h1 : 10 ≤ n) (hz : Hid (S.size ≤ 100)) (hq : Hid (n / 10 = q ∧ n % 10 = r ∧ n ≤ 9223372036854775807)) (w : World)
    (hS : Hid (∀ w, Calls Tryd.prog 70 #[.int .i64 q] w fun e w' => e = .returned (.string S) ∧ Below w.heap.size w w')) :
    Calls Tryd.prog 70 #[.int .i64 n] w fun e w' => e = .returned (.string (S ++ strOfNums [48 + r])) ∧ Below w.heap.size w w' := by
  obtain ⟨e1, e2, e3⟩ := hq.out
  have f1 : n.tdiv 10 = q := by rw [Int.tdiv_eq_ediv_of_nonneg (by omega)]; exact e1
  have f2 : n.tmod 10 = r := by rw [Int.tmod_eq_emod_of_nonneg (by omega)]; exact e2
  have r0 : 0 ≤ r := by omega
  have r1 : r ≤ 9 := by omega
  have f3 : IntKind.i64.wrap q = q := IntWalk.i64_in _ (by omega)
  have f4 : IntKind.i64.wrap r = r := IntWalk.i64_in _ (by omega)
  have f5 : IntKind.i64.wrap (48 + r) = 48 + r := IntWalk.i64_in _ (by omega)
  have f6 : IntKind.u8.wrap (48 + r) = 48 + r := by rw [show IntKind.u8.wrap (48 + r) = (48 + r) % 256 from by simp [IntKind.wrap, IntKind.signed, IntKind.bits]]; omega
  have K := hide (fun w : World => conv_new w (48 + r))
  have k0 := K.out w
  have k1 := conv_cell (w.alloc (.cells #[.int .u8 (48 + r)] 5)).drew w.heap.size (48 + r) (cell_new w (48 + r))
  have kS := str_add S (strOfNums [48 + r]) (by have := hz.out; have := str_one (48 + r); omega)
  clear e3 hq
  go_enter Tryd.func70, Tryd.ntmps70
  go_wp2_with fail
  go_region_held (fun _ => True) (trivial) (first | (go_at_call 70; refine (hS.out _).mono ?_; rintro e w' ⟨rfl, hb⟩; have kc := K.out w'; try (have kb := conv_kept (b := w.heap.size) (x := 48 + r) hb (cell_new w (48 + r)))))
  all_goals go_wp2_with fail
  all_goals go_ret
  all_goals refine ⟨rfl, ?_⟩
  · exact Below.alloc (w := _) (⟨hb.os, hb.tape, hb.output, hb.size, hb.block⟩ : Below w.heap.size w _) hb.size _
  all_goals exact bel_step ((Below.refl w.heap.size w).alloc (Nat.le_refl _) (.cells #[.int .u8 (48 + r)] 5)) ⟨hb.os, hb.tape, hb.output, hb.size, hb.block⟩ (Nat.le_of_lt (Array.getElem?_eq_some_iff.1 (heap_alloc_new w _)).1)
/-- the text of a natural number -/
def dt (u : Nat) : ByteArray := ⟨(Lib.decDigits u).toArray⟩
theorem one_byte (u : Nat) (h : u < 10) : strOfNums [48 + (u : Int)] = ⟨[UInt8.ofNat (48 + u)].toArray⟩ := by
  rcases (by omega : u = 0 ∨ u = 1 ∨ u = 2 ∨ u = 3 ∨ u = 4 ∨ u = 5 ∨ u = 6 ∨ u = 7 ∨ u = 8 ∨ u = 9) with rfl | rfl | rfl | rfl | rfl | rfl | rfl | rfl | rfl | rfl <;> rfl
theorem join_bytes (a b : List UInt8) : (⟨a.toArray⟩ : ByteArray) ++ ⟨b.toArray⟩ = ⟨(a ++ b).toArray⟩ := by
  apply ByteArray.ext
  simp
theorem dt_big (u : Nat) (h : ¬ u < 10) : dt u = dt (u / 10) ++ strOfNums [48 + ((u % 10 : Nat) : Int)] := by
  unfold dt
  rw [one_byte _ (by omega), join_bytes]
  conv => lhs; rw [Lib.decDigits, dif_neg h]
theorem dt_small (u : Nat) (h : u < 10) : dt u = strOfNums [48 + (u : Int)] := by
  unfold dt
  rw [one_byte _ h, Lib.decDigits_one h]
theorem dt_len : ∀ (k u : Nat), u < 10 ^ (k + 1) → (dt u).size ≤ k + 1
  | 0, u, h => by rw [dt_small u (by omega), str_one]; omega
  | k + 1, u, h => by
    by_cases h1 : u < 10
    · rw [dt_small u h1, str_one]; omega
    · have := dt_len k (u / 10) (by rw [Nat.pow_succ] at h; omega)
      rw [dt_big u h1, ByteArray.size_append, str_one]
      omega
theorem sDigits : ∀ (u : Nat), u < 10 ^ 11 → ∀ (w : World), Calls Tryd.prog 70 #[.int .i64 u] w fun e w' => e = .returned (.string (dt u)) ∧ Below w.heap.size w w' := by
  intro u
  induction u using Nat.strongRecOn with
  | _ u ih =>
    intro hu w
    by_cases h : u < 10
    · rw [dt_small u h]
      exact sDigits_small u (by omega) (by omega) w
    · rw [dt_big u h]
      refine sDigits_big u ((u / 10 : Nat) : Int) ((u % 10 : Nat) : Int) (dt (u / 10)) (by omega) (hide ?_) (hide ?_) w (hide (ih (u / 10) (by omega) (by omega)))
      · have := dt_len 11 (u / 10) (by omega)
        omega
      · omega
/-- the text of a number -/
def nt (v : Int) : ByteArray := ⟨(Lib.itoa v).toArray⟩
theorem nt_neg (u : Nat) (h : 0 < u) : nt (-(u : Int)) = ⟨#[45]⟩ ++ dt u := by
  unfold nt dt Lib.itoa
  rw [if_pos (by omega), show (⟨#[45]⟩ : ByteArray) = ⟨[(45 : UInt8)].toArray⟩ from rfl, join_bytes]
  simp
theorem nt_pos (u : Nat) : nt (u : Int) = dt u := by
  unfold nt dt Lib.itoa
  rw [if_neg (by omega)]
  simp
theorem sNumText_pos (n : Int) (u : Nat) (hu : u < 10 ^ 10) (hv : wrap32 n = u) (w : World) : Calls Tryd.prog 27 #[.int .i64 n] w fun e w' => e = .returned (.string (dt u)) ∧ Below w.heap.size w w' := by
  have HC := hide (sDigits u (by omega))
  have hv0 : (0 : Int) ≤ u := by omega
  clear hu
  obtain ⟨v, hv1⟩ : ∃ v : Int, (u : Int) = v := ⟨_, rfl⟩
  rw [hv1] at hv HC hv0
  obtain ⟨S, hS⟩ : ∃ S, dt u = S := ⟨_, rfl⟩
  rw [hS] at HC ⊢
  have HW := hide (sWrap n)
  rw [hv] at HW
  clear hv hv1 hS
  go_enter Tryd.func27, Tryd.ntmps27
  go_wp2_with fail
  refine (HW.out _).mono ?_
  rintro e w1 ⟨rfl, rfl⟩
  go_wp2_with fail
  refine (HC.out _).mono ?_
  rintro e w2 ⟨rfl, hb⟩
  go_wp2_with fail
  go_ret
  exact ⟨rfl, hb⟩
theorem sNumText_neg (n : Int) (u : Nat) (h0 : 0 < u) (hu : u < 10 ^ 10) (hv : wrap32 n = -(u : Int)) (w : World) : Calls Tryd.prog 27 #[.int .i64 n] w fun e w' => e = .returned (.string (⟨#[45]⟩ ++ dt u)) ∧ Below w.heap.size w w' := by
  have HC := hide (sDigits u (by omega))
  have hl := dt_len 10 u (by omega)
  have hadd := str_add ⟨#[45]⟩ (dt u) (by have : (⟨#[45]⟩ : ByteArray).size = 1 := rfl; omega)
  have hv0 : (0 : Int) < u := by omega
  have hv2 : (u : Int) ≤ 10000000000 := by omega
  clear hu hl h0
  obtain ⟨v, hv1⟩ : ∃ v : Int, (u : Int) = v := ⟨_, rfl⟩
  rw [hv1] at hv HC hv0 hv2
  obtain ⟨S, hS⟩ : ∃ S, dt u = S := ⟨_, rfl⟩
  rw [hS] at HC hadd ⊢
  have HW := hide (sWrap n)
  rw [hv] at HW
  clear hv hv1 hS
  go_enter Tryd.func27, Tryd.ntmps27
  go_wp2_with fail
  refine (HW.out _).mono ?_
  rintro e w1 ⟨rfl, rfl⟩
  go_wp2_with fail
  refine (HC.out _).mono ?_
  rintro e w2 ⟨rfl, hb⟩
  go_wp2_with fail
  go_ret
  exact ⟨rfl, hb⟩
theorem sNumText (n : Int) (w : World) : Calls Tryd.prog 27 #[.int .i64 n] w fun e w' => e = .returned (.string (nt (wrap32 n))) ∧ Below w.heap.size w w' := by
  have hb := w32_bd n
  by_cases h : 0 ≤ wrap32 n
  · obtain ⟨u, hu⟩ : ∃ u : Nat, wrap32 n = u := ⟨(wrap32 n).toNat, by omega⟩
    rw [hu, nt_pos]
    exact sNumText_pos n u (by omega) hu w
  · obtain ⟨u, hu⟩ : ∃ u : Nat, wrap32 n = -(u : Int) := ⟨(-(wrap32 n)).toNat, by omega⟩
    rw [hu, nt_neg u (by omega)]
    exact sNumText_neg n u (by omega) (by omega) hu w
theorem iNumText (n : Int) (w : World) (htab : Lib.TabIs Tryd.prog w "internal/strconv.uint64pow10" .u64 Lib.pow10Tab) : Calls Tryd.prog 75 #[.int .i64 n] w fun e w' => e = .returned (.string (nt (wrap32 n))) ∧ ∃ k os, w' = «Sort».grow (w.drewN k) os := by
  have hb := w32_bd n
  have HI := hide (Tryd.strconv_Itoa (wrap32 n) (by omega) (by omega) w htab)
  have HW := hide (iWrap n)
  clear htab
  obtain ⟨S, hS⟩ : ∃ S, nt (wrap32 n) = S := ⟨_, rfl⟩
  unfold nt at hS
  unfold nt
  rw [hS] at HI ⊢
  obtain ⟨v, hv⟩ : ∃ v, wrap32 n = v := ⟨_, rfl⟩
  rw [hv] at HI HW hb
  clear hS hv
  go_enter Tryd.func75, Tryd.ntmps75
  go_wp2_with fail
  refine (HW.out _).mono ?_
  rintro e w1 ⟨rfl, rfl⟩
  go_wp2_with fail
  refine HI.out.mono ?_
  rintro e w2 ⟨rfl, k, os, rfl⟩
  go_wp2_with fail
  go_ret
  exact ⟨rfl, k, os, rfl⟩
end Go.Proofs.YtiinkfejdnfonaaDoor.Dig
