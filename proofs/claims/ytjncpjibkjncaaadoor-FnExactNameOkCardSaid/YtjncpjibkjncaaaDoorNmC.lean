/- Right names, in the program and in the reference: a contract each. -/
import Derived.Test.YtjncpjibkjncaaaDoorOpP
import Derived.Test.YtjncpjibkjncaaaDoorUtfN
namespace Go.Proofs.YtjncpjibkjncaaaDoor.Nm
open Go.RowKit Go.Proofs.YtjncpjibkjncaaaDoor.Num Go.Proofs.YtjncpjibkjncaaaDoor.NumC Go.Proofs.YtjncpjibkjncaaaDoor.Mem Go.Proofs.YtjncpjibkjncaaaDoor.Ops Go.Proofs.YtjncpjibkjncaaaDoor.Utf
set_option linter.unusedVariables false

def words7 : List ByteArray := [⟨#[105, 110, 116]⟩, ⟨#[118, 97, 114]⟩, ⟨#[102, 117, 110, 99]⟩, ⟨#[105, 102]⟩, ⟨#[101, 108, 115, 101]⟩, ⟨#[119, 104, 105, 108, 101]⟩, ⟨#[114, 101, 116, 117, 114, 110]⟩]
def signs29 : List ByteArray := [⟨#[124, 124]⟩, ⟨#[38, 38]⟩, ⟨#[61, 61]⟩, ⟨#[33, 61]⟩, ⟨#[60, 61]⟩, ⟨#[62, 61]⟩, ⟨#[60, 60]⟩, ⟨#[62, 62]⟩, ⟨#[40]⟩, ⟨#[41]⟩, ⟨#[123]⟩, ⟨#[125]⟩, ⟨#[91]⟩, ⟨#[93]⟩, ⟨#[44]⟩, ⟨#[59]⟩, ⟨#[61]⟩, ⟨#[60]⟩, ⟨#[62]⟩, ⟨#[43]⟩, ⟨#[45]⟩, ⟨#[42]⟩, ⟨#[47]⟩, ⟨#[37]⟩, ⟨#[38]⟩, ⟨#[124]⟩, ⟨#[94]⟩, ⟨#[33]⟩, ⟨#[126]⟩]
def textS : ByteArray := ⟨#[105, 110, 116, 32, 118, 97, 114, 32, 102, 117, 110, 99, 32, 105, 102, 32, 101, 108, 115, 101, 32, 119, 104, 105, 108, 101, 32, 114, 101, 116, 117, 114, 110, 32, 124, 124, 32, 38, 38, 32, 61, 61, 32, 33, 61, 32, 60, 61, 32, 62, 61, 32, 60, 60, 32, 62, 62, 32, 40, 32, 41, 32, 123, 32, 125, 32, 91, 32, 93, 32, 44, 32, 59, 32, 61, 32, 60, 32, 62, 32, 43, 32, 45, 32, 42, 32, 47, 32, 37, 32, 38, 32, 124, 32, 94, 32, 33, 32, 126]⟩
theorem fieldsS : (Lib.fields textS.data.toList).map (fun l => (⟨l.toArray⟩ : ByteArray)) = words7 ++ signs29 := by decide +kernel
theorem len_fS : (Lib.fields textS.data.toList).length = 36 := by decide +kernel
theorem ascS : ∀ (j : Nat) b, textS.data.toList[j]? = some b → b.toNat < 128 := by
  have h : ∀ b ∈ textS.data.toList, b.toNat < 128 := by decide +kernel
  exact fun j b hb => h b (List.mem_of_getElem? hb)
theorem cellsS : ((Lib.fields textS.data.toList).map fun l => Value.string ⟨l.toArray⟩).toArray = (strC (words7 ++ signs29)).toArray := by
  rw [← fieldsS]
  simp [strC, List.map_map, Function.comp_def]
def small (y : Int) : Bool := decide (97 ≤ y) && decide (y ≤ 122)
def digit (y : Int) : Bool := decide (48 ≤ y) && decide (y ≤ 57)
def part (y : Int) : Bool := small y || (decide (65 ≤ y) && decide (y ≤ 90)) || digit y || decide (y = 95)
theorem small_iff {y : Int} : small y = true ↔ 97 ≤ y ∧ y ≤ 122 := by simp [small]
theorem small_f {y : Int} : small y = false ↔ y < 97 ∨ 122 < y := by simp [small]; omega
theorem digit_iff {y : Int} : digit y = true ↔ 48 ≤ y ∧ y ≤ 57 := by simp [digit]
theorem digit_f {y : Int} : digit y = false ↔ y < 48 ∨ 57 < y := by simp [digit]; omega
/-- a text is a small letter and parts of a name -/
def word (l : List Int) : Bool :=
  match l with
  | [] => false
  | x :: r => small x && (x :: r).all part
def has (l : List ByteArray) (s : ByteArray) : Bool := l.any fun x => decide (x = s)
theorem has_iff {l : List ByteArray} {s : ByteArray} : has l s = true ↔ s ∈ l := by simp [has]
theorem has_no {l : List ByteArray} {s : ByteArray} : has l s = false ↔ s ∉ l := by rw [← has_iff, Bool.not_eq_true]
def nmOk (s : ByteArray) : Bool := word (byt s) && decide (s.size ≤ 12) && !has words7 s
theorem signs_no : ∀ x ∈ signs29, ∀ y r, byt x = y :: r → small y = false := by
  have h : ∀ x ∈ signs29, small ((byt x).getD 0 0) = false := by decide +kernel
  intro x hx y r hy
  have := h x hx
  rw [hy] at this
  simpa using this
/-- a word is a sign of the language just where it is one of the seven -/
theorem word_sign {s : ByteArray} (h : word (byt s) = true) : s ∈ words7 ++ signs29 ↔ s ∈ words7 := by
  rw [List.mem_append]
  refine ⟨fun hm => ?_, .inl⟩
  rcases hm with hm | hm
  · exact hm
  · cases hb : byt s with
    | nil => rw [hb] at h; cases h
    | cons y r =>
      have := signs_no s hm y r hb
      rw [hb] at h
      simp [word, this] at h
theorem iletter_t (y : Int) (w : World) (h0 : 97 ≤ y) (h1 : y ≤ 122) : Calls Tryd.prog 56 #[.int .u8 y] w fun e w' => e = .returned (.bool true) ∧ w = w' := by
  go_enter Tryd.func56, Tryd.ntmps56
  go_wp2_with fail
  go_ret
  exact ⟨rfl, rfl⟩
theorem iletter_f (y : Int) (w : World) (h : y < 97 ∨ 122 < y) : Calls Tryd.prog 56 #[.int .u8 y] w fun e w' => e = .returned (.bool false) ∧ w = w' := by
  by_cases h1 : y < 97
  · clear h
    go_enter Tryd.func56, Tryd.ntmps56
    go_wp2_with fail
    go_ret
    exact ⟨rfl, rfl⟩
  · have h2 : 97 ≤ y := by omega
    have h3 : 122 < y := by omega
    have h4 : decide (y ≤ 122) = false := by simp; omega
    clear h h1
    go_enter Tryd.func56, Tryd.ntmps56
    go_wp2_with fail
    go_ret
    exact ⟨rfl, rfl⟩
theorem iletter_c (y : Int) (w : World) : Calls Tryd.prog 56 #[.int .u8 y] w fun e w' => e = .returned (.bool (small y)) ∧ w = w' := by
  cases h : small y
  · exact iletter_f y w (small_f.1 h)
  · exact iletter_t y w (small_iff.1 h).1 (small_iff.1 h).2
theorem ssmall_t (y : Int) (w : World) (h0 : 97 ≤ y) (h1 : y ≤ 122) : Calls Tryd.prog 55 #[.int .u8 y] w fun e w' => e = .returned (.bool true) ∧ w = w' := by
  go_enter Tryd.func55, Tryd.ntmps55
  go_wp2_with fail
  go_ret
  exact ⟨rfl, rfl⟩
theorem ssmall_f (y : Int) (w : World) (h : y < 97 ∨ 122 < y) : Calls Tryd.prog 55 #[.int .u8 y] w fun e w' => e = .returned (.bool false) ∧ w = w' := by
  by_cases h1 : y < 97
  · clear h
    go_enter Tryd.func55, Tryd.ntmps55
    go_wp2_with fail
    go_ret
    exact ⟨rfl, rfl⟩
  · have h2 : 97 ≤ y := by omega
    have h3 : 122 < y := by omega
    have h4 : decide (y ≤ 122) = false := by simp; omega
    clear h h1
    go_enter Tryd.func55, Tryd.ntmps55
    go_wp2_with fail
    go_ret
    exact ⟨rfl, rfl⟩
theorem ssmall_c (y : Int) (w : World) : Calls Tryd.prog 55 #[.int .u8 y] w fun e w' => e = .returned (.bool (small y)) ∧ w = w' := by
  cases h : small y
  · exact ssmall_f y w (small_f.1 h)
  · exact ssmall_t y w (small_iff.1 h).1 (small_iff.1 h).2
theorem idigit_t (y : Int) (w : World) (h0 : 48 ≤ y) (h1 : y ≤ 57) : Calls Tryd.prog 69 #[.int .u8 y] w fun e w' => e = .returned (.bool true) ∧ w = w' := by
  go_enter Tryd.func69, Tryd.ntmps69
  go_wp2_with fail
  go_ret
  exact ⟨rfl, rfl⟩
theorem idigit_f (y : Int) (w : World) (h : y < 48 ∨ 57 < y) : Calls Tryd.prog 69 #[.int .u8 y] w fun e w' => e = .returned (.bool false) ∧ w = w' := by
  by_cases h1 : y < 48
  · clear h
    go_enter Tryd.func69, Tryd.ntmps69
    go_wp2_with fail
    go_ret
    exact ⟨rfl, rfl⟩
  · have h2 : 48 ≤ y := by omega
    have h3 : 57 < y := by omega
    have h4 : decide (y ≤ 57) = false := by simp; omega
    clear h h1
    go_enter Tryd.func69, Tryd.ntmps69
    go_wp2_with fail
    go_ret
    exact ⟨rfl, rfl⟩
theorem idigit_c (y : Int) (w : World) : Calls Tryd.prog 69 #[.int .u8 y] w fun e w' => e = .returned (.bool (digit y)) ∧ w = w' := by
  cases h : digit y
  · exact idigit_f y w (digit_f.1 h)
  · exact idigit_t y w (digit_iff.1 h).1 (digit_iff.1 h).2
theorem sdigit_t (y : Int) (w : World) (h0 : 48 ≤ y) (h1 : y ≤ 57) : Calls Tryd.prog 68 #[.int .u8 y] w fun e w' => e = .returned (.bool true) ∧ w = w' := by
  go_enter Tryd.func68, Tryd.ntmps68
  go_wp2_with fail
  go_ret
  exact ⟨rfl, rfl⟩
theorem sdigit_f (y : Int) (w : World) (h : y < 48 ∨ 57 < y) : Calls Tryd.prog 68 #[.int .u8 y] w fun e w' => e = .returned (.bool false) ∧ w = w' := by
  by_cases h1 : y < 48
  · clear h
    go_enter Tryd.func68, Tryd.ntmps68
    go_wp2_with fail
    go_ret
    exact ⟨rfl, rfl⟩
  · have h2 : 48 ≤ y := by omega
    have h3 : 57 < y := by omega
    have h4 : decide (y ≤ 57) = false := by simp; omega
    clear h h1
    go_enter Tryd.func68, Tryd.ntmps68
    go_wp2_with fail
    go_ret
    exact ⟨rfl, rfl⟩
theorem sdigit_c (y : Int) (w : World) : Calls Tryd.prog 68 #[.int .u8 y] w fun e w' => e = .returned (.bool (digit y)) ∧ w = w' := by
  cases h : digit y
  · exact sdigit_f y w (digit_f.1 h)
  · exact sdigit_t y w (digit_iff.1 h).1 (digit_iff.1 h).2
theorem iname_c (y : Int) (w : World) : Calls Tryd.prog 58 #[.int .u8 y] w fun e w' => e = .returned (.bool (part y)) ∧ w = w' := by
  have L := hide (iletter_c y)
  have D := hide (idigit_c y)
  cases hs : small y
  · rw [hs] at L
    cases hd : digit y
    · rw [hd] at D
      by_cases h65 : 65 ≤ y
      · by_cases h90 : y ≤ 90
        · have hp : part y = true := by simp [part, h65, h90]
          clear hs hd
          go_enter Tryd.func58, Tryd.ntmps58
          go_wp2_with fail
          refine (L.out _).mono ?_
          rintro e w' ⟨rfl, rfl⟩
          go_wp2_with fail
          all_goals go_ret
          all_goals exact ⟨by rw [hp]; rfl, rfl⟩
        · have h90' : 90 < y := by omega
          have h90d : decide (y ≤ 90) = false := decide_eq_false h90
          by_cases h95 : y = 95
          · have hp : part y = true := by simp [part, h95]
            subst h95
            clear hs hd
            go_enter Tryd.func58, Tryd.ntmps58
            go_wp2_with fail
            refine (L.out _).mono ?_
            rintro e w' ⟨rfl, rfl⟩
            go_wp2_with fail
            refine (D.out _).mono ?_
            rintro e w' ⟨rfl, rfl⟩
            go_wp2_with fail
            all_goals go_ret
            all_goals exact ⟨by rw [hp]; rfl, rfl⟩
          · have h95b : (y == 95) = false := by simpa using h95
            have hp : part y = false := by simp [part, hs, hd, h90, h95]
            clear hs hd h90 h95
            go_enter Tryd.func58, Tryd.ntmps58
            go_wp2_with fail
            refine (L.out _).mono ?_
            rintro e w' ⟨rfl, rfl⟩
            go_wp2_with fail
            refine (D.out _).mono ?_
            rintro e w' ⟨rfl, rfl⟩
            go_wp2_with fail
            all_goals go_ret
            all_goals exact ⟨by rw [hp]; rfl, rfl⟩
      · have h65' : y < 65 := by omega
        have h95b : (y == 95) = false := by simp; omega
        have hp : part y = false := by simp [part, hs, hd, h65]; omega
        clear hs hd h65
        go_enter Tryd.func58, Tryd.ntmps58
        go_wp2_with fail
        refine (L.out _).mono ?_
        rintro e w' ⟨rfl, rfl⟩
        go_wp2_with fail
        refine (D.out _).mono ?_
        rintro e w' ⟨rfl, rfl⟩
        go_wp2_with fail
        all_goals go_ret
        all_goals exact ⟨by rw [hp]; rfl, rfl⟩
    · rw [hd] at D
      have hp : part y = true := by simp [part, hd]
      have h57 := (digit_iff.1 hd).2
      have h65 : y < 65 := by omega
      clear hs hd
      go_enter Tryd.func58, Tryd.ntmps58
      go_wp2_with fail
      refine (L.out _).mono ?_
      rintro e w' ⟨rfl, rfl⟩
      go_wp2_with fail
      refine (D.out _).mono ?_
      rintro e w' ⟨rfl, rfl⟩
      go_wp2_with fail
      all_goals go_ret
      all_goals exact ⟨by rw [hp]; rfl, rfl⟩
  · rw [hs] at L
    have hp : part y = true := by simp [part, hs]
    clear hs
    go_enter Tryd.func58, Tryd.ntmps58
    go_wp2_with fail
    refine (L.out _).mono ?_
    rintro e w' ⟨rfl, rfl⟩
    go_wp2_with fail
    all_goals go_ret
    all_goals exact ⟨by rw [hp]; rfl, rfl⟩
theorem spart_c (y : Int) (w : World) : Calls Tryd.prog 54 #[.int .u8 y] w fun e w' => e = .returned (.bool (part y)) ∧ w = w' := by
  have L := hide (ssmall_c y)
  have D := hide (sdigit_c y)
  cases hs : small y
  · rw [hs] at L
    cases hd : digit y
    · rw [hd] at D
      by_cases h65 : 65 ≤ y
      · by_cases h90 : y ≤ 90
        · have hp : part y = true := by simp [part, h65, h90]
          clear hs hd
          go_enter Tryd.func54, Tryd.ntmps54
          go_wp2_with fail
          refine (L.out _).mono ?_
          rintro e w' ⟨rfl, rfl⟩
          go_wp2_with fail
          all_goals go_ret
          all_goals exact ⟨by rw [hp]; rfl, rfl⟩
        · have h90' : 90 < y := by omega
          have h90d : decide (y ≤ 90) = false := decide_eq_false h90
          by_cases h95 : y = 95
          · have hp : part y = true := by simp [part, h95]
            subst h95
            clear hs hd
            go_enter Tryd.func54, Tryd.ntmps54
            go_wp2_with fail
            refine (L.out _).mono ?_
            rintro e w' ⟨rfl, rfl⟩
            go_wp2_with fail
            refine (D.out _).mono ?_
            rintro e w' ⟨rfl, rfl⟩
            go_wp2_with fail
            all_goals go_ret
            all_goals exact ⟨by rw [hp]; rfl, rfl⟩
          · have h95b : (y == 95) = false := by simpa using h95
            have hp : part y = false := by simp [part, hs, hd, h90, h95]
            clear hs hd h90 h95
            go_enter Tryd.func54, Tryd.ntmps54
            go_wp2_with fail
            refine (L.out _).mono ?_
            rintro e w' ⟨rfl, rfl⟩
            go_wp2_with fail
            refine (D.out _).mono ?_
            rintro e w' ⟨rfl, rfl⟩
            go_wp2_with fail
            all_goals go_ret
            all_goals exact ⟨by rw [hp]; rfl, rfl⟩
      · have h65' : y < 65 := by omega
        have h95b : (y == 95) = false := by simp; omega
        have hp : part y = false := by simp [part, hs, hd, h65]; omega
        clear hs hd h65
        go_enter Tryd.func54, Tryd.ntmps54
        go_wp2_with fail
        refine (L.out _).mono ?_
        rintro e w' ⟨rfl, rfl⟩
        go_wp2_with fail
        refine (D.out _).mono ?_
        rintro e w' ⟨rfl, rfl⟩
        go_wp2_with fail
        all_goals go_ret
        all_goals exact ⟨by rw [hp]; rfl, rfl⟩
    · rw [hd] at D
      have hp : part y = true := by simp [part, hd]
      have h57 := (digit_iff.1 hd).2
      have h65 : y < 65 := by omega
      clear hs hd
      go_enter Tryd.func54, Tryd.ntmps54
      go_wp2_with fail
      refine (L.out _).mono ?_
      rintro e w' ⟨rfl, rfl⟩
      go_wp2_with fail
      refine (D.out _).mono ?_
      rintro e w' ⟨rfl, rfl⟩
      go_wp2_with fail
      all_goals go_ret
      all_goals exact ⟨by rw [hp]; rfl, rfl⟩
  · rw [hs] at L
    have hp : part y = true := by simp [part, hs]
    clear hs
    go_enter Tryd.func54, Tryd.ntmps54
    go_wp2_with fail
    refine (L.out _).mono ?_
    rintro e w' ⟨rfl, rfl⟩
    go_wp2_with fail
    all_goals go_ret
    all_goals exact ⟨by rw [hp]; rfl, rfl⟩
theorem byt_at (s : ByteArray) (i : Nat) (h : i < s.size) : (byt s)[i]? = some ((s[i]'h).toNat : Int) := by
  have hd := byt_drop s i h
  have h2 : ((byt s).drop i)[0]? = some ((s[i]'h).toNat : Int) := by rw [hd]; rfl
  simpa using h2
theorem all_of {s : ByteArray} (h : ∀ j : Nat, j < s.size → ∀ y, (byt s)[j]? = some y → part y = true) : (byt s).all part = true := by
  rw [List.all_eq_true]
  intro y hy
  obtain ⟨j, hj, he⟩ := List.getElem_of_mem hy
  exact h j (by rw [← byt_len]; exact hj) y (by rw [List.getElem?_eq_getElem hj, he])
theorem all_not {s : ByteArray} {j : Nat} {y : Int} (hy : (byt s)[j]? = some y) (h : part y = false) : (byt s).all part = false := by
  rw [Bool.eq_false_iff]
  intro ha
  have := List.all_eq_true.1 ha y (List.mem_of_getElem? hy)
  rw [h] at this
  cases this
theorem run_c (s : ByteArray) (w : World) (hm : (s.size : Int) ≤ 1048576) : Calls Tryd.prog 57 #[.string s, .int .i64 0, .func (.func 58) #[] #[]] w fun e w' => (∃ r : Int, e = .returned (.int .i64 r) ∧ (r == (s.size : Int)) = (byt s).all part) ∧ w = w' := by
  go_enter Tryd.func57, Tryd.ntmps57
  go_wp2_with fail
  go_loop [1] (fun i' => ∃ i : Nat, i ≤ s.size ∧ i' = .int .i64 i ∧ Hid (∀ j : Nat, j < i → ∀ y, (byt s)[j]? = some y → part y = true)) (fun i' => s.size - (intOf i').toNat)
  case atStart => exact ⟨0, Nat.zero_le _, rfl, hide (fun j hj => by omega)⟩
  case round =>
    obtain ⟨i, hi, rfl, HA⟩ := hrel
    by_cases hlt : i < s.size
    · have hi' : (i : Int) < s.size := by omega
      have hi0 : (0 : Int) ≤ i := by omega
      obtain ⟨y, hy⟩ : ∃ y : Int, ((s[i]'hlt).toNat : Int) = y := ⟨_, rfl⟩
      have hyat := byt_at s i hlt
      rw [hy] at hyat
      have HY := hide hyat
      clear hyat
      cases hp : part y
      · have HC := hide (show ∀ w, Calls Tryd.prog 58 #[.int .u8 y] w fun e w' => e = .returned (.bool false) ∧ w = w' from fun w => hp ▸ iname_c y w)
        have HP := hide hp
        clear hp
        go_wp2_with fail
        refine (HC.out _).mono ?_
        rintro e w' ⟨rfl, rfl⟩
        go_wp2_with fail
        go_ret
        exact ⟨⟨i, rfl, by rw [all_not HY.out HP.out]; simp; omega⟩, rfl⟩
      · have HC := hide (show ∀ w, Calls Tryd.prog 58 #[.int .u8 y] w fun e w' => e = .returned (.bool true) ∧ w = w' from fun w => hp ▸ iname_c y w)
        have HP := hide hp
        clear hp
        go_wp2_with fail
        refine (HC.out _).mono ?_
        rintro e w' ⟨rfl, rfl⟩
        go_wp2_with fail
        go_round
        case rel =>
          refine ⟨i + 1, by omega, by go_num, hide (fun j hj z hz => ?_)⟩
          by_cases hji : j < i
          · exact HA.out j hji z hz
          · obtain rfl : j = i := by omega
            rw [HY.out] at hz
            rw [← Option.some.inj hz]
            exact HP.out
        case measure => simp [intOf]; omega
    · obtain rfl : i = s.size := by omega
      go_wp2_with fail
      go_ret
      exact ⟨⟨s.size, rfl, by rw [all_of HA.out]; simp⟩, rfl⟩
theorem signs_c (w : World) (hT : Tab w) : Calls Tryd.prog 71 #[] w (Fresh 9 1 36 (strC (words7 ++ signs29)) w) := by
  have hc : Calls Tryd.prog 52 #[.string textS] w (Fresh 9 1 36 (strC (words7 ++ signs29)) w) := by
    refine (Tryd.strings_Fields textS w (by decide +kernel) ascS hT).mono ?_
    rintro e w' ⟨rfl, rfl⟩
    rw [len_fS, cellsS]
    exact ⟨_, _, rfl, World.ownsRow_lit w _ 36 (Nat.le_refl _) (by decide) rfl, (Below.refl _ _).alloc (Nat.le_refl _) _⟩
  have HC := hide hc
  clear hc hT
  go_enter Tryd.func71, Tryd.ntmps71
  go_wp2_with fail
  refine HC.out.mono ?_
  rintro e w1 ⟨A1, c1, rfl, ho1, hb1⟩
  have HO := hide ho1
  have HB := hide hb1
  clear ho1 hb1
  go_wp2_with fail
  go_ret
  exact ⟨A1, c1, rfl, HO.out, HB.out⟩
theorem containsS_c (A : Option Addr) (n c : Nat) (l : List ByteArray) (v : ByteArray) (w : World) (hr : Rd w w.heap.size 1 A n (strC l)) (hn : n ≤ 1048576) :
    Calls Tryd.prog 70 #[.slice A n c, .string v] w fun e w' => e = .returned (.bool (has l v)) ∧ Below w.heap.size w w' := by
  have HC := hide (index_str A n c l v w hr hn)
  clear hr hn
  go_enter Tryd.func70, Tryd.ntmps70
  go_wp2_with fail
  refine HC.out.mono ?_
  rintro e w1 ⟨r, rfl, hf, hb⟩
  go_wp2_with fail
  go_ret
  refine ⟨?_, hb⟩
  have hk : has l v = decide (r ≥ 0) := by
    rcases hf with ⟨rfl, hn⟩ | ⟨k, rfl, hk⟩
    · rw [has_no.2 hn]; rfl
    · rw [has_iff.2 (List.mem_of_getElem? hk)]
      symm
      exact decide_eq_true (by omega)
  rw [hk]
  rfl
theorem isSign_c (s : ByteArray) (w : World) (hT : Tab w) : Calls Tryd.prog 59 #[.string s] w fun e w' => e = .returned (.bool (has (words7 ++ signs29) s)) ∧ Below w.heap.size w w' := by
  have HC := hide (signs_c w hT)
  clear hT
  go_enter Tryd.func59, Tryd.ntmps59
  go_wp2_with fail
  refine HC.out.mono ?_
  rintro e w1 ⟨A1, c1, rfl, ho1, hb1⟩
  have HR := hide ho1.rd
  have HB := hide hb1
  clear ho1 hb1
  go_wp2_with fail
  refine (containsS_c A1 36 c1 _ s w1 HR.out (by omega)).mono ?_
  rintro e w2 ⟨rfl, hb2⟩
  have HB2 := hide (bel_step HB.out hb2 HB.out.size)
  clear hb2
  go_wp2_with fail
  go_ret
  exact ⟨rfl, HB2.out⟩
theorem iisName (s : ByteArray) (w : World) (hm : (s.size : Int) ≤ 1048576) (hT : Tab w) : Calls Tryd.prog 46 #[.string s] w fun e w' => e = .returned (.bool (word (byt s) && !has words7 s)) ∧ Below w.heap.size w w' := by
  have HT := hide hT
  clear hT
  cases hb : byt s with
  | nil =>
    have h0 : s = ⟨#[]⟩ := by
      have := byt_len s
      rw [hb] at this
      exact ByteArray.ext (Array.eq_empty_of_size_eq_zero this.symm)
    subst h0
    go_enter Tryd.func46, Tryd.ntmps46
    go_wp2_with fail
    go_ret
    exact ⟨rfl, Below.refl _ _⟩
  | cons x r =>
    have h0 : 0 < s.size := by have := byt_len s; rw [hb] at this; simp at this; omega
    have hs0 : (0 : Int) < s.size := by omega
    have hse : s.toList.isEmpty = false := by
      rw [ByteArray.toList_eq]
      simp only [List.isEmpty_eq_false_iff, ne_eq]
      intro e
      have : byt s = [] := by unfold byt; rw [e]; rfl
      rw [hb] at this
      cases this
    have hx : ((s[0]'h0).toNat : Int) = x := by
      have := byt_at s 0 h0
      rw [hb] at this
      simpa using this.symm
    rw [← hb]
    cases hsm : small x
    · have hw : (word (byt s) && !has words7 s) = false := by rw [hb]; simp [word, hsm]
      have HC := hide (show ∀ w, Calls Tryd.prog 56 #[.int .u8 x] w fun e w' => e = .returned (.bool false) ∧ w = w' from fun w => hsm ▸ iletter_c x w)
      rw [hw]
      clear hw hsm hb
      go_enter Tryd.func46, Tryd.ntmps46
      go_wp2_with fail
      refine (HC.out _).mono ?_
      rintro e w' ⟨rfl, rfl⟩
      go_wp2_with fail
      go_ret
      exact ⟨rfl, Below.refl _ _⟩
    · have HC := hide (show ∀ w, Calls Tryd.prog 56 #[.int .u8 x] w fun e w' => e = .returned (.bool true) ∧ w = w' from fun w => hsm ▸ iletter_c x w)
      have HRun := hide (fun w => run_c s w hm)
      have HS := hide (fun w h => isSign_c s w h)
      cases ha : (byt s).all part
      · have hw : (word (byt s) && !has words7 s) = false := by rw [hb] at ha ⊢; simp only [word, hsm, ha]; rfl
        rw [hw]
        rw [ha] at HRun
        clear hw hsm hb ha
        go_enter Tryd.func46, Tryd.ntmps46
        go_wp2_with fail
        refine (HC.out _).mono ?_
        rintro e w' ⟨rfl, rfl⟩
        go_wp2_with fail
        refine (HRun.out _).mono ?_
        rintro e w' ⟨⟨q, rfl, hq⟩, rfl⟩
        go_wp2_with fail
        go_ret
        exact ⟨rfl, Below.refl _ _⟩
      · have hwd : word (byt s) = true := by rw [hb] at ha ⊢; simp only [word, hsm, ha]; rfl
        have hsg : has (words7 ++ signs29) s = has words7 s := by
          rw [Bool.eq_iff_iff, has_iff, has_iff]
          exact word_sign hwd
        rw [hwd, Bool.true_and]
        rw [ha] at HRun
        rw [hsg] at HS
        obtain ⟨B, hB⟩ : ∃ B, has words7 s = B := ⟨_, rfl⟩
        rw [hB] at HS ⊢
        clear hwd hsg hsm hb ha hB
        go_enter Tryd.func46, Tryd.ntmps46
        go_wp2_with fail
        refine (HC.out _).mono ?_
        rintro e w' ⟨rfl, rfl⟩
        go_wp2_with fail
        refine (HRun.out _).mono ?_
        rintro e w' ⟨⟨q, rfl, hq⟩, rfl⟩
        go_wp2_with fail
        refine (HS.out _ HT.out).mono ?_
        rintro e w1 ⟨rfl, hb1⟩
        go_wp2_with fail
        go_ret
        exact ⟨rfl, hb1⟩
end Go.Proofs.YtjncpjibkjncaaaDoor.Nm
