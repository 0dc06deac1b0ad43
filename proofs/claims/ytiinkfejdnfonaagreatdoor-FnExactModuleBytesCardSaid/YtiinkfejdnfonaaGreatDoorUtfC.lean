/- Right texts, in the reference and in the program: a contract each. -/
import Derived.Test.YtiinkfejdnfonaaGreatDoorUtfN
import Derived.Test.YtiinkfejdnfonaaGreatDoorNumC
import Derived.Test.YtiinkfejdnfonaaGreatDoorMem
import Derived.Test.YtiinkfejdnfonaaGreatDoorShelf
import Derived.Lib.LaidU8T
import Derived.PinnedBridge
namespace Go.Proofs.YtiinkfejdnfonaaGreatDoor.Utf
open Go.RowKit Go.Proofs.YtiinkfejdnfonaaGreatDoor.Num Go.Proofs.YtiinkfejdnfonaaGreatDoor.NumC Go.Proofs.YtiinkfejdnfonaaGreatDoor.Mem
set_option linter.unusedVariables false

theorem and31 (x : Int) : bits .and .i64 x 31 = x % 32 := by
  show IntKind.i64.wrap ((BitVec.ofInt 64 x &&& BitVec.ofInt 64 31).toNat : Int) = _
  have h2 : (BitVec.ofInt 64 31).toNat = 2 ^ 5 - 1 := by decide
  rw [BitVec.toNat_and, h2, Nat.and_two_pow_sub_one_eq_mod, BitVec.toNat_ofInt, IntKind.wrap_i64]
  omega
theorem and15 (x : Int) : bits .and .i64 x 15 = x % 16 := by
  show IntKind.i64.wrap ((BitVec.ofInt 64 x &&& BitVec.ofInt 64 15).toNat : Int) = _
  have h2 : (BitVec.ofInt 64 15).toNat = 2 ^ 4 - 1 := by decide
  rw [BitVec.toNat_and, h2, Nat.and_two_pow_sub_one_eq_mod, BitVec.toNat_ofInt, IntKind.wrap_i64]
  omega
theorem and7 (x : Int) : bits .and .i64 x 7 = x % 8 := by
  show IntKind.i64.wrap ((BitVec.ofInt 64 x &&& BitVec.ofInt 64 7).toNat : Int) = _
  have h2 : (BitVec.ofInt 64 7).toNat = 2 ^ 3 - 1 := by decide
  rw [BitVec.toNat_and, h2, Nat.and_two_pow_sub_one_eq_mod, BitVec.toNat_ofInt, IntKind.wrap_i64]
  omega
theorem and63 (x : Int) : bits .and .i64 x 63 = x % 64 := by
  show IntKind.i64.wrap ((BitVec.ofInt 64 x &&& BitVec.ofInt 64 63).toNat : Int) = _
  have h2 : (BitVec.ofInt 64 63).toNat = 2 ^ 6 - 1 := by decide
  rw [BitVec.toNat_and, h2, Nat.and_two_pow_sub_one_eq_mod, BitVec.toNat_ofInt, IntKind.wrap_i64]
  omega
theorem more_bad {m : Nat} {v y : Int} {r : List Int} (h : y < 128 ∨ 191 < y) : more (m + 1) v (y :: r) = none := by rw [more, if_pos h]
theorem more_ok {m : Nat} {v y : Int} {r : List Int} (h : 128 ≤ y) (h' : y ≤ 191) : more (m + 1) v (y :: r) = more m (v * 64 + y % 64) r := by rw [more, if_neg (by omega)]
theorem char_1 {x : Int} {r : List Int} (h : x < 128) : char (x :: r) = 1 := by simp only [char]; rw [if_pos h]
theorem char_0 {x : Int} {r : List Int} (h : 128 ≤ x) (h' : x < 194 ∨ 245 ≤ x) : char (x :: r) = 0 := by
  simp only [char]
  rw [if_neg (by omega), show head x = (0, 0, 0) by unfold head; rw [if_neg (by omega), if_neg (by omega), if_neg (by omega)], if_pos (.inl rfl)]
theorem char_few {x n : Int} {r : List Int} (h : 128 ≤ x) (hn : (head x).1 = n) (h' : (r.length : Int) + 1 < n) : char (x :: r) = 0 := by
  simp only [char]
  rw [if_neg (by omega), if_pos (.inr (by rw [hn]; exact h'))]
theorem char_n {x n l v : Int} {m : Nat} {r : List Int} (h : 128 ≤ x) (hh : head x = (n, l, v)) (hn : n = m + 1) (h' : n ≤ (r.length : Int) + 1) (hm : 1 ≤ m) : char (x :: r) = fin n l (more m v r) := by
  simp only [char]
  rw [if_neg (by omega), hh]
  simp only
  rw [if_neg (by omega), hn]
  congr 2
theorem fin_none (n l : Int) : fin n l none = 0 := rfl
theorem fin_bad {n l v : Int} (h : v < l ∨ 1114111 < v ∨ (55296 ≤ v ∧ v ≤ 57343)) : fin n l (some v) = 0 := by simp only [fin]; rw [if_pos h]
theorem fin_ok {n l v : Int} (h : l ≤ v) (h1 : v ≤ 1114111) (h2 : v < 55296 ∨ 57343 < v) : fin n l (some v) = n := by simp only [fin]; rw [if_neg (by omega)]
theorem hd2 {x : Int} (h : 194 ≤ x) (h' : x < 224) : head x = (2, 128, x % 32) := by unfold head; rw [if_pos ⟨h, h'⟩]
theorem hd3 {x : Int} (h : 224 ≤ x) (h' : x < 240) : head x = (3, 2048, x % 16) := by unfold head; rw [if_neg (by omega), if_pos ⟨h, h'⟩]
theorem hd4 {x : Int} (h : 240 ≤ x) (h' : x < 245) : head x = (4, 65536, x % 8) := by unfold head; rw [if_neg (by omega), if_neg (by omega), if_pos ⟨h, h'⟩]

theorem sChar_1 (s : ByteArray) (i : Nat) (w : World) (hi : i < s.size) (hm : (s.size : Int) ≤ 1048576) (x : Int) (hx : ((s[i]'hi).toNat : Int) = x) (h0 : 0 ≤ x) (h1 : x < 128) :
    Calls Tryz.prog 120 #[.string s, .int .i64 i] w fun e w' => e = .returned (.int .i64 1) ∧ w = w' := by
  have hi' : (i : Int) < s.size := by omega
  have hi0 : (0 : Int) ≤ i := by omega
  go_enter Tryz.func120, Tryz.ntmps120
  go_wp2_with fail
  go_ret
  exact ⟨rfl, rfl⟩
theorem sChar_0 (s : ByteArray) (i : Nat) (w : World) (hi : i < s.size) (hm : (s.size : Int) ≤ 1048576) (x : Int) (hx : ((s[i]'hi).toNat : Int) = x) (h1 : x ≤ 255) (h : (128 ≤ x ∧ x < 194) ∨ 245 ≤ x) :
    Calls Tryz.prog 120 #[.string s, .int .i64 i] w fun e w' => e = .returned (.int .i64 0) ∧ w = w' := by
  have hi' : (i : Int) < s.size := by omega
  have hi0 : (0 : Int) ≤ i := by omega
  rcases h with ⟨h2, h3⟩ | h2
  all_goals
    go_enter Tryz.func120, Tryz.ntmps120
    go_wp2_with fail
    go_ret
    exact ⟨rfl, rfl⟩
set_option maxHeartbeats 4000000 in
theorem sChar_2 (s : ByteArray) (i : Nat) (w : World) (hi : i < s.size) (hm : (s.size : Int) ≤ 1048576) (x : Int) (hx : ((s[i]'hi).toNat : Int) = x) (h1 : 194 ≤ x) (h2 : x < 224) (R : Int) (hR : Hid (char ((byt s).drop i) = R)) :
    Calls Tryz.prog 120 #[.string s, .int .i64 i] w fun e w' => e = .returned (.int .i64 R) ∧ w = w' := by
  have hi' : (i : Int) < s.size := by omega
  have hi0 : (0 : Int) ≤ i := by omega
  have hl : ((byt s).drop (i + 1)).length = s.size - (i + 1) := by rw [List.length_drop, byt_len]
  have hd := hd2 h1 h2
  by_cases hn : (i : Int) + 2 ≤ s.size
  · obtain ⟨O, hO⟩ : ∃ O, more 1 (x % 32) ((byt s).drop (i + 1)) = O := ⟨_, rfl⟩
    have HO := hide hO
    have HRO : Hid (R = fin 2 128 O) := hide (by
      rw [← hR.out, byt_drop s i hi, hx, ← hO]
      exact char_n (m := 1) (by omega) hd rfl (by omega) (by omega))
    obtain ⟨v0, hv0⟩ : ∃ v0, x % 32 = v0 := ⟨_, rfl⟩
    have va : bits .and .i64 x 31 = v0 := by rw [and31]; exact hv0
    have v00 : 0 ≤ v0 := by omega
    have v01 : v0 ≤ 31 := by omega
    rw [hv0] at HO
    clear hl hd hR hO hv0
    go_enter Tryz.func120, Tryz.ntmps120
    go_wp2_with fail
    go_loop [8, 9] (fun v i' => ∃ (k : Nat) (V : Int), 1 ≤ k ∧ k ≤ 2 ∧ i' = .int .i64 k ∧ v = .int .i64 V ∧ 0 ≤ V ∧ V ≤ 8388607 ∧ (k = 1 → V ≤ 31) ∧ (k = 2 → V ≤ 2047) ∧ (k = 3 → V ≤ 131071) ∧ Hid (more (2 - k) V ((byt s).drop (i + k)) = O)) (fun _ i' => 2 - (intOf i').toNat)
    case atStart => exact ⟨1, v0, by omega, by omega, rfl, rfl, v00, by omega, fun _ => by omega, fun h => by omega, fun h => by omega, HO⟩
    case round =>
      obtain ⟨k, V, hk1, hk2, rfl, rfl, V0, V1, b1, b2, b3, HM⟩ := hrel
      by_cases hlt : k < 2
      · have hik : i + k < s.size := by omega
        have hlt' : (k : Int) < 2 := by omega
        have hk0 : (0 : Int) ≤ k := by omega
        have hik' : (i : Int) + k < s.size := by omega
        have hik0 : (0 : Int) ≤ (i : Int) + k := by omega
        obtain ⟨y, hy⟩ : ∃ y : Int, ((s[i + k]'hik).toNat : Int) = y := ⟨_, rfl⟩
        have hyb := byt_bd s y (by rw [← hy]; have := byt_drop s (i + k) hik; exact List.mem_of_mem_drop (by rw [this]; simp))
        obtain ⟨y0, y1⟩ := hyb
        have hM := HM.out
        rw [byt_drop s (i + k) hik, hy, show 2 - k = (2 - (k + 1)) + 1 by omega] at hM
        have HM2 := hide hM
        clear hM HM
        by_cases h3 : y < 128
        · have hR0 : R = 0 := by rw [HRO.out, ← HM2.out, more_bad (.inl h3), fin_none]
          subst hR0
          clear HRO
          go_wp2_with fail
          all_goals go_ret
          all_goals exact ⟨rfl, rfl⟩
        · by_cases h4 : 191 < y
          · have hR0 : R = 0 := by rw [HRO.out, ← HM2.out, more_bad (.inr h4), fin_none]
            subst hR0
            clear HRO
            have h3' : 128 ≤ y := by omega
            clear h3
            go_wp2_with fail
            all_goals go_ret
            all_goals exact ⟨rfl, rfl⟩
          · have h3' : 128 ≤ y := by omega
            have h4' : y ≤ 191 := by omega
            have hM := HM2.out
            rw [more_ok h3' h4'] at hM
            obtain ⟨z, hz⟩ : ∃ z, y % 64 = z := ⟨_, rfl⟩
            have za : bits .and .i64 y 63 = z := by rw [and63]; exact hz
            have z0 : 0 ≤ z := by omega
            have z1 : z ≤ 63 := by omega
            rw [hz] at hM
            have HM3 := hide hM
            clear hM HM2 h3 h4 hz
            have wz : IntKind.i64.wrap (V * 64 + z) = V * 64 + z := by rw [IntKind.wrap_i64]; omega
            go_wp2_with fail
            go_round
            case rel =>
              first
              | exact ⟨k + 1, V * 64 + z, by omega, by omega, by go_num, rfl, by omega, by omega, fun h => by omega, fun h => by omega, fun h => by omega, HM3⟩
              | exact ⟨k + 1, by omega, by omega, by go_num, V * 64 + z, rfl, by omega, by omega, fun h => by omega, fun h => by omega, fun h => by omega, HM3⟩
            case measure => simp [intOf]; omega
      · obtain rfl : k = 2 := by omega
        have hO2 : O = some V := by rw [← HM.out]; rfl
        subst hO2
        by_cases c1 : V < 128
        · have hR0 : R = 0 := by rw [HRO.out]; exact fin_bad (.inl c1)
          subst hR0
          clear HRO HM
          go_wp2_with fail
          all_goals go_ret
          all_goals exact ⟨rfl, rfl⟩
        · have c1' : 128 ≤ V := by omega
          by_cases c2 : 1114111 < V
          · have hR0 : R = 0 := by rw [HRO.out]; exact fin_bad (.inr (.inl c2))
            subst hR0
            clear HRO HM c1
            go_wp2_with fail
            all_goals go_ret
            all_goals exact ⟨rfl, rfl⟩
          · have c2' : V ≤ 1114111 := by omega
            by_cases c3 : 55296 ≤ V
            · by_cases c4 : V ≤ 57343
              · have hR0 : R = 0 := by rw [HRO.out]; exact fin_bad (.inr (.inr ⟨c3, c4⟩))
                subst hR0
                clear HRO HM c1 c2
                go_wp2_with fail
                all_goals go_ret
                all_goals exact ⟨rfl, rfl⟩
              · have c4' : 57343 < V := by omega
                have hR0 : R = 2 := by rw [HRO.out]; exact fin_ok c1' c2' (.inr c4')
                subst hR0
                clear HRO HM c1 c2 c4
                go_wp2_with fail
                all_goals go_ret
                all_goals exact ⟨rfl, rfl⟩
            · have c3' : V < 55296 := by omega
              have hR0 : R = 2 := by rw [HRO.out]; exact fin_ok c1' c2' (.inl c3')
              subst hR0
              clear HRO HM c1 c2 c3
              go_wp2_with fail
              all_goals go_ret
              all_goals exact ⟨rfl, rfl⟩
  · have hn' : (s.size : Int) < (i : Int) + 2 := by omega
    have hR0 : R = 0 := by
      rw [← hR.out, byt_drop s i hi, hx]
      exact char_few (n := 2) (by omega) (by rw [hd]) (by omega)
    subst hR0
    clear hl hd hR hn
    go_enter Tryz.func120, Tryz.ntmps120
    go_wp2_with fail
    all_goals go_ret
    all_goals exact ⟨rfl, rfl⟩
set_option maxHeartbeats 4000000 in
theorem sChar_3 (s : ByteArray) (i : Nat) (w : World) (hi : i < s.size) (hm : (s.size : Int) ≤ 1048576) (x : Int) (hx : ((s[i]'hi).toNat : Int) = x) (h1 : 224 ≤ x) (h2 : x < 240) (R : Int) (hR : Hid (char ((byt s).drop i) = R)) :
    Calls Tryz.prog 120 #[.string s, .int .i64 i] w fun e w' => e = .returned (.int .i64 R) ∧ w = w' := by
  have hi' : (i : Int) < s.size := by omega
  have hi0 : (0 : Int) ≤ i := by omega
  have hl : ((byt s).drop (i + 1)).length = s.size - (i + 1) := by rw [List.length_drop, byt_len]
  have hd := hd3 h1 h2
  by_cases hn : (i : Int) + 3 ≤ s.size
  · obtain ⟨O, hO⟩ : ∃ O, more 2 (x % 16) ((byt s).drop (i + 1)) = O := ⟨_, rfl⟩
    have HO := hide hO
    have HRO : Hid (R = fin 3 2048 O) := hide (by
      rw [← hR.out, byt_drop s i hi, hx, ← hO]
      exact char_n (m := 2) (by omega) hd rfl (by omega) (by omega))
    obtain ⟨v0, hv0⟩ : ∃ v0, x % 16 = v0 := ⟨_, rfl⟩
    have va : bits .and .i64 x 15 = v0 := by rw [and15]; exact hv0
    have v00 : 0 ≤ v0 := by omega
    have v01 : v0 ≤ 15 := by omega
    rw [hv0] at HO
    clear hl hd hR hO hv0
    go_enter Tryz.func120, Tryz.ntmps120
    go_wp2_with fail
    go_loop [8, 9] (fun v i' => ∃ (k : Nat) (V : Int), 1 ≤ k ∧ k ≤ 3 ∧ i' = .int .i64 k ∧ v = .int .i64 V ∧ 0 ≤ V ∧ V ≤ 8388607 ∧ (k = 1 → V ≤ 31) ∧ (k = 2 → V ≤ 2047) ∧ (k = 3 → V ≤ 131071) ∧ Hid (more (3 - k) V ((byt s).drop (i + k)) = O)) (fun _ i' => 3 - (intOf i').toNat)
    case atStart => exact ⟨1, v0, by omega, by omega, rfl, rfl, v00, by omega, fun _ => by omega, fun h => by omega, fun h => by omega, HO⟩
    case round =>
      obtain ⟨k, V, hk1, hk2, rfl, rfl, V0, V1, b1, b2, b3, HM⟩ := hrel
      by_cases hlt : k < 3
      · have hik : i + k < s.size := by omega
        have hlt' : (k : Int) < 3 := by omega
        have hk0 : (0 : Int) ≤ k := by omega
        have hik' : (i : Int) + k < s.size := by omega
        have hik0 : (0 : Int) ≤ (i : Int) + k := by omega
        obtain ⟨y, hy⟩ : ∃ y : Int, ((s[i + k]'hik).toNat : Int) = y := ⟨_, rfl⟩
        have hyb := byt_bd s y (by rw [← hy]; have := byt_drop s (i + k) hik; exact List.mem_of_mem_drop (by rw [this]; simp))
        obtain ⟨y0, y1⟩ := hyb
        have hM := HM.out
        rw [byt_drop s (i + k) hik, hy, show 3 - k = (3 - (k + 1)) + 1 by omega] at hM
        have HM2 := hide hM
        clear hM HM
        by_cases h3 : y < 128
        · have hR0 : R = 0 := by rw [HRO.out, ← HM2.out, more_bad (.inl h3), fin_none]
          subst hR0
          clear HRO
          go_wp2_with fail
          all_goals go_ret
          all_goals exact ⟨rfl, rfl⟩
        · by_cases h4 : 191 < y
          · have hR0 : R = 0 := by rw [HRO.out, ← HM2.out, more_bad (.inr h4), fin_none]
            subst hR0
            clear HRO
            have h3' : 128 ≤ y := by omega
            clear h3
            go_wp2_with fail
            all_goals go_ret
            all_goals exact ⟨rfl, rfl⟩
          · have h3' : 128 ≤ y := by omega
            have h4' : y ≤ 191 := by omega
            have hM := HM2.out
            rw [more_ok h3' h4'] at hM
            obtain ⟨z, hz⟩ : ∃ z, y % 64 = z := ⟨_, rfl⟩
            have za : bits .and .i64 y 63 = z := by rw [and63]; exact hz
            have z0 : 0 ≤ z := by omega
            have z1 : z ≤ 63 := by omega
            rw [hz] at hM
            have HM3 := hide hM
            clear hM HM2 h3 h4 hz
            have wz : IntKind.i64.wrap (V * 64 + z) = V * 64 + z := by rw [IntKind.wrap_i64]; omega
            go_wp2_with fail
            go_round
            case rel =>
              first
              | exact ⟨k + 1, V * 64 + z, by omega, by omega, by go_num, rfl, by omega, by omega, fun h => by omega, fun h => by omega, fun h => by omega, HM3⟩
              | exact ⟨k + 1, by omega, by omega, by go_num, V * 64 + z, rfl, by omega, by omega, fun h => by omega, fun h => by omega, fun h => by omega, HM3⟩
            case measure => simp [intOf]; omega
      · obtain rfl : k = 3 := by omega
        have hO2 : O = some V := by rw [← HM.out]; rfl
        subst hO2
        by_cases c1 : V < 2048
        · have hR0 : R = 0 := by rw [HRO.out]; exact fin_bad (.inl c1)
          subst hR0
          clear HRO HM
          go_wp2_with fail
          all_goals go_ret
          all_goals exact ⟨rfl, rfl⟩
        · have c1' : 2048 ≤ V := by omega
          by_cases c2 : 1114111 < V
          · have hR0 : R = 0 := by rw [HRO.out]; exact fin_bad (.inr (.inl c2))
            subst hR0
            clear HRO HM c1
            go_wp2_with fail
            all_goals go_ret
            all_goals exact ⟨rfl, rfl⟩
          · have c2' : V ≤ 1114111 := by omega
            by_cases c3 : 55296 ≤ V
            · by_cases c4 : V ≤ 57343
              · have hR0 : R = 0 := by rw [HRO.out]; exact fin_bad (.inr (.inr ⟨c3, c4⟩))
                subst hR0
                clear HRO HM c1 c2
                go_wp2_with fail
                all_goals go_ret
                all_goals exact ⟨rfl, rfl⟩
              · have c4' : 57343 < V := by omega
                have hR0 : R = 3 := by rw [HRO.out]; exact fin_ok c1' c2' (.inr c4')
                subst hR0
                clear HRO HM c1 c2 c4
                go_wp2_with fail
                all_goals go_ret
                all_goals exact ⟨rfl, rfl⟩
            · have c3' : V < 55296 := by omega
              have hR0 : R = 3 := by rw [HRO.out]; exact fin_ok c1' c2' (.inl c3')
              subst hR0
              clear HRO HM c1 c2 c3
              go_wp2_with fail
              all_goals go_ret
              all_goals exact ⟨rfl, rfl⟩
  · have hn' : (s.size : Int) < (i : Int) + 3 := by omega
    have hR0 : R = 0 := by
      rw [← hR.out, byt_drop s i hi, hx]
      exact char_few (n := 3) (by omega) (by rw [hd]) (by omega)
    subst hR0
    clear hl hd hR hn
    go_enter Tryz.func120, Tryz.ntmps120
    go_wp2_with fail
    all_goals go_ret
    all_goals exact ⟨rfl, rfl⟩
set_option maxHeartbeats 4000000 in
theorem sChar_4 (s : ByteArray) (i : Nat) (w : World) (hi : i < s.size) (hm : (s.size : Int) ≤ 1048576) (x : Int) (hx : ((s[i]'hi).toNat : Int) = x) (h1 : 240 ≤ x) (h2 : x < 245) (R : Int) (hR : Hid (char ((byt s).drop i) = R)) :
    Calls Tryz.prog 120 #[.string s, .int .i64 i] w fun e w' => e = .returned (.int .i64 R) ∧ w = w' := by
  have hi' : (i : Int) < s.size := by omega
  have hi0 : (0 : Int) ≤ i := by omega
  have hl : ((byt s).drop (i + 1)).length = s.size - (i + 1) := by rw [List.length_drop, byt_len]
  have hd := hd4 h1 h2
  by_cases hn : (i : Int) + 4 ≤ s.size
  · obtain ⟨O, hO⟩ : ∃ O, more 3 (x % 8) ((byt s).drop (i + 1)) = O := ⟨_, rfl⟩
    have HO := hide hO
    have HRO : Hid (R = fin 4 65536 O) := hide (by
      rw [← hR.out, byt_drop s i hi, hx, ← hO]
      exact char_n (m := 3) (by omega) hd rfl (by omega) (by omega))
    obtain ⟨v0, hv0⟩ : ∃ v0, x % 8 = v0 := ⟨_, rfl⟩
    have va : bits .and .i64 x 7 = v0 := by rw [and7]; exact hv0
    have v00 : 0 ≤ v0 := by omega
    have v01 : v0 ≤ 7 := by omega
    rw [hv0] at HO
    clear hl hd hR hO hv0
    go_enter Tryz.func120, Tryz.ntmps120
    go_wp2_with fail
    go_loop [8, 9] (fun v i' => ∃ (k : Nat) (V : Int), 1 ≤ k ∧ k ≤ 4 ∧ i' = .int .i64 k ∧ v = .int .i64 V ∧ 0 ≤ V ∧ V ≤ 8388607 ∧ (k = 1 → V ≤ 31) ∧ (k = 2 → V ≤ 2047) ∧ (k = 3 → V ≤ 131071) ∧ Hid (more (4 - k) V ((byt s).drop (i + k)) = O)) (fun _ i' => 4 - (intOf i').toNat)
    case atStart => exact ⟨1, v0, by omega, by omega, rfl, rfl, v00, by omega, fun _ => by omega, fun h => by omega, fun h => by omega, HO⟩
    case round =>
      obtain ⟨k, V, hk1, hk2, rfl, rfl, V0, V1, b1, b2, b3, HM⟩ := hrel
      by_cases hlt : k < 4
      · have hik : i + k < s.size := by omega
        have hlt' : (k : Int) < 4 := by omega
        have hk0 : (0 : Int) ≤ k := by omega
        have hik' : (i : Int) + k < s.size := by omega
        have hik0 : (0 : Int) ≤ (i : Int) + k := by omega
        obtain ⟨y, hy⟩ : ∃ y : Int, ((s[i + k]'hik).toNat : Int) = y := ⟨_, rfl⟩
        have hyb := byt_bd s y (by rw [← hy]; have := byt_drop s (i + k) hik; exact List.mem_of_mem_drop (by rw [this]; simp))
        obtain ⟨y0, y1⟩ := hyb
        have hM := HM.out
        rw [byt_drop s (i + k) hik, hy, show 4 - k = (4 - (k + 1)) + 1 by omega] at hM
        have HM2 := hide hM
        clear hM HM
        by_cases h3 : y < 128
        · have hR0 : R = 0 := by rw [HRO.out, ← HM2.out, more_bad (.inl h3), fin_none]
          subst hR0
          clear HRO
          go_wp2_with fail
          all_goals go_ret
          all_goals exact ⟨rfl, rfl⟩
        · by_cases h4 : 191 < y
          · have hR0 : R = 0 := by rw [HRO.out, ← HM2.out, more_bad (.inr h4), fin_none]
            subst hR0
            clear HRO
            have h3' : 128 ≤ y := by omega
            clear h3
            go_wp2_with fail
            all_goals go_ret
            all_goals exact ⟨rfl, rfl⟩
          · have h3' : 128 ≤ y := by omega
            have h4' : y ≤ 191 := by omega
            have hM := HM2.out
            rw [more_ok h3' h4'] at hM
            obtain ⟨z, hz⟩ : ∃ z, y % 64 = z := ⟨_, rfl⟩
            have za : bits .and .i64 y 63 = z := by rw [and63]; exact hz
            have z0 : 0 ≤ z := by omega
            have z1 : z ≤ 63 := by omega
            rw [hz] at hM
            have HM3 := hide hM
            clear hM HM2 h3 h4 hz
            have wz : IntKind.i64.wrap (V * 64 + z) = V * 64 + z := by rw [IntKind.wrap_i64]; omega
            go_wp2_with fail
            go_round
            case rel =>
              first
              | exact ⟨k + 1, V * 64 + z, by omega, by omega, by go_num, rfl, by omega, by omega, fun h => by omega, fun h => by omega, fun h => by omega, HM3⟩
              | exact ⟨k + 1, by omega, by omega, by go_num, V * 64 + z, rfl, by omega, by omega, fun h => by omega, fun h => by omega, fun h => by omega, HM3⟩
            case measure => simp [intOf]; omega
      · obtain rfl : k = 4 := by omega
        have hO2 : O = some V := by rw [← HM.out]; rfl
        subst hO2
        by_cases c1 : V < 65536
        · have hR0 : R = 0 := by rw [HRO.out]; exact fin_bad (.inl c1)
          subst hR0
          clear HRO HM
          go_wp2_with fail
          all_goals go_ret
          all_goals exact ⟨rfl, rfl⟩
        · have c1' : 65536 ≤ V := by omega
          by_cases c2 : 1114111 < V
          · have hR0 : R = 0 := by rw [HRO.out]; exact fin_bad (.inr (.inl c2))
            subst hR0
            clear HRO HM c1
            go_wp2_with fail
            all_goals go_ret
            all_goals exact ⟨rfl, rfl⟩
          · have c2' : V ≤ 1114111 := by omega
            by_cases c3 : 55296 ≤ V
            · by_cases c4 : V ≤ 57343
              · have hR0 : R = 0 := by rw [HRO.out]; exact fin_bad (.inr (.inr ⟨c3, c4⟩))
                subst hR0
                clear HRO HM c1 c2
                go_wp2_with fail
                all_goals go_ret
                all_goals exact ⟨rfl, rfl⟩
              · have c4' : 57343 < V := by omega
                have hR0 : R = 4 := by rw [HRO.out]; exact fin_ok c1' c2' (.inr c4')
                subst hR0
                clear HRO HM c1 c2 c4
                go_wp2_with fail
                all_goals go_ret
                all_goals exact ⟨rfl, rfl⟩
            · have c3' : V < 55296 := by omega
              have hR0 : R = 4 := by rw [HRO.out]; exact fin_ok c1' c2' (.inl c3')
              subst hR0
              clear HRO HM c1 c2 c3
              go_wp2_with fail
              all_goals go_ret
              all_goals exact ⟨rfl, rfl⟩
  · have hn' : (s.size : Int) < (i : Int) + 4 := by omega
    have hR0 : R = 0 := by
      rw [← hR.out, byt_drop s i hi, hx]
      exact char_few (n := 4) (by omega) (by rw [hd]) (by omega)
    subst hR0
    clear hl hd hR hn
    go_enter Tryz.func120, Tryz.ntmps120
    go_wp2_with fail
    all_goals go_ret
    all_goals exact ⟨rfl, rfl⟩
theorem sChar (s : ByteArray) (i : Nat) (w : World) (hi : i < s.size) (hm : (s.size : Int) ≤ 1048576) :
    Calls Tryz.prog 120 #[.string s, .int .i64 i] w fun e w' => e = .returned (.int .i64 (char ((byt s).drop i))) ∧ w = w' := by
  obtain ⟨x, hx⟩ : ∃ x : Int, ((s[i]'hi).toNat : Int) = x := ⟨_, rfl⟩
  have hxb := byt_bd s x (by rw [← hx]; have := byt_drop s i hi; exact List.mem_of_mem_drop (by rw [this]; simp))
  rcases (by omega : x < 128 ∨ ((128 ≤ x ∧ x < 194) ∨ 245 ≤ x) ∨ (194 ≤ x ∧ x < 224) ∨ (224 ≤ x ∧ x < 240) ∨ (240 ≤ x ∧ x < 245)) with h | h | ⟨h, h'⟩ | ⟨h, h'⟩ | ⟨h, h'⟩
  · rw [byt_drop s i hi, hx, char_1 h]
    exact sChar_1 s i w hi hm x hx hxb.1 h
  · rw [byt_drop s i hi, hx, char_0 (by omega) (by omega)]
    exact sChar_0 s i w hi hm x hx hxb.2 h
  · exact sChar_2 s i w hi hm x hx h h' _ (hide rfl)
  · exact sChar_3 s i w hi hm x hx h h' _ (hide rfl)
  · exact sChar_4 s i w hi hm x hx h h' _ (hide rfl)
theorem sUtfOk (s : ByteArray) (w : World) (hm : (s.size : Int) ≤ 1048576) : Calls Tryz.prog 106 #[.string s] w fun e w' => e = .returned (.bool (utfOk s)) ∧ w = w' := by
  obtain ⟨R, hR⟩ : ∃ R, utfOk s = R := ⟨_, rfl⟩
  rw [hR]
  have HR : Hid (okF (s.size + 1) ((byt s).drop 0) = R) := hide (by
    rw [← hR, List.drop_zero]
    exact okF_fuel _ _ _ (by rw [byt_len]; omega) (by rw [byt_len]; omega))
  clear hR
  go_enter Tryz.func106, Tryz.ntmps106
  go_wp2_with fail
  go_loop [3] (fun i' => ∃ i : Nat, i ≤ s.size ∧ i' = .int .i64 i ∧ Hid (okF (s.size + 1 - i) ((byt s).drop i) = R)) (fun i' => s.size - (intOf i').toNat)
  case atStart => exact ⟨0, Nat.zero_le _, rfl, HR⟩
  case round =>
    obtain ⟨i, hi, rfl, HF⟩ := hrel
    by_cases hlt : i < s.size
    · have hi' : (i : Int) < s.size := by omega
      have hi0 : (0 : Int) ≤ i := by omega
      have hcb := char_bd ((byt s).drop i)
      have hlen : ((byt s).drop i).length = s.size - i := by rw [List.length_drop, byt_len]
      obtain ⟨c, hc⟩ : ∃ c, char ((byt s).drop i) = c := ⟨_, rfl⟩
      have hF := HF.out
      have hne : (byt s).drop i ≠ [] := by intro e; rw [e] at hlen; simp at hlen; omega
      rw [show s.size + 1 - i = (s.size - i) + 1 by omega, okF, if_neg hne, hc] at hF
      have SC := sChar s i w hlt hm
      rw [hc] at SC
      have HSC := hide SC
      rw [hc, hlen] at hcb
      obtain ⟨k0, k1, k2⟩ := hcb
      clear SC HF hne hlen hc
      by_cases h0 : c = 0
      · subst h0
        rw [if_pos rfl] at hF
        subst hF
        clear HR
        go_wp2_with fail
        refine HSC.out.mono ?_
        rintro e w' ⟨rfl, rfl⟩
        go_wp2_with fail
        go_ret
        exact ⟨rfl, rfl⟩
      · rw [if_neg h0, List.drop_drop] at hF
        obtain ⟨m, rfl⟩ : ∃ m : Nat, c = m := ⟨c.toNat, by omega⟩
        rw [Int.toNat_natCast] at hF
        have hF2 : okF (s.size + 1 - (i + m)) ((byt s).drop (i + m)) = R := by
          rw [← hF]
          refine okF_fuel _ _ _ ?_ ?_
          · rw [List.length_drop, byt_len]; omega
          · rw [List.length_drop, byt_len]; omega
        have HF2 := hide hF2
        have hb : ((m : Int) == 0) = false := by simpa using h0
        have k2' : (i : Int) + m ≤ s.size := by omega
        clear hF hF2 k2
        go_wp2_with fail
        refine HSC.out.mono ?_
        rintro e w' ⟨rfl, rfl⟩
        go_wp2_with fail
        go_round
        case rel => exact ⟨i + m, by omega, by go_num, HF2⟩
        case measure => simp [intOf]; omega
    · obtain rfl : i = s.size := by omega
      have hRt : R = true := by
        rw [← HF.out, List.drop_of_length_le (by rw [byt_len]; exact Nat.le_refl _), show s.size + 1 - s.size = 0 + 1 by omega]
        rfl
      subst hRt
      go_wp2_with fail
      go_ret
      exact ⟨rfl, rfl⟩
theorem iUtfOk (s : ByteArray) (w : World) (hm : (s.size : Int) ≤ 1048576) (hT : Lib.Utf8Tabs 0 1 w) : Calls Tryz.prog 111 #[.string s] w fun e w' => e = .returned (.bool (utfOk s)) ∧ Below w.heap.size w w' := by
  have hc : Calls Tryz.prog 124 #[.string s] w fun e w' => e = .returned (.bool (Lib.validD s.data.toList)) ∧ Below w.heap.size w w' :=
    Any.utf8_ValidString Tryz.lays196 s w (by omega) hT
  rw [← utfOk_valid] at hc
  obtain ⟨R, hR⟩ : ∃ R, utfOk s = R := ⟨_, rfl⟩
  rw [hR] at hc ⊢
  have HC := hide hc
  clear hc hR hT
  go_enter Tryz.func111, Tryz.ntmps111
  go_wp2_with fail
  refine HC.out.mono ?_
  rintro e w' ⟨rfl, hb⟩
  go_wp2_with fail
  go_ret
  exact ⟨rfl, hb⟩
end Go.Proofs.YtiinkfejdnfonaaGreatDoor.Utf
