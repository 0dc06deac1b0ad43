/- Plain laws on right texts: the reference's way, character by character, is the library's. No program in sight. -/
import Derived.WalkKit
import Derived.Lib.ValidLaws
import Derived.Test.YtiinkfejdnfonaaGreatDoorNum
namespace Go.Proofs.YtiinkfejdnfonaaGreatDoor.Utf
open Go.RowKit Go.Proofs.YtiinkfejdnfonaaGreatDoor.Num

def byt (s : ByteArray) : List Int := s.data.toList.map fun b => (b.toNat : Int)
/-- the bytes behind a first one, taken together; none where one of them is not right -/
def more : Nat → Int → List Int → Option Int
  | 0, v, _ => some v
  | _ + 1, _, [] => none
  | m + 1, v, y :: r => if y < 128 ∨ 191 < y then none else more m (v * 64 + y % 64) r
def fin (n : Int) (least : Int) : Option Int → Int
  | none => 0
  | some v => if v < least ∨ 1114111 < v ∨ (55296 ≤ v ∧ v ≤ 57343) then 0 else n
/-- what a first byte tells: how many bytes, the least number, the bits -/
def head (x : Int) : Int × Int × Int :=
  if 194 ≤ x ∧ x < 224 then (2, 128, x % 32) else if 224 ≤ x ∧ x < 240 then (3, 2048, x % 16) else if 240 ≤ x ∧ x < 245 then (4, 65536, x % 8) else (0, 0, 0)
/-- how many bytes the first character has; 0 where it is not right -/
def char (l : List Int) : Int :=
  match l with
  | [] => 0
  | x :: r => if x < 128 then 1 else if (head x).1 = 0 ∨ (r.length : Int) + 1 < (head x).1 then 0 else fin (head x).1 (head x).2.1 (more ((head x).1.toNat - 1) (head x).2.2 r)
/-- a text is right, with fuel -/
def okF : Nat → List Int → Bool
  | 0, _ => true
  | f + 1, l => if l = [] then true else if char l = 0 then false else okF f (l.drop (char l).toNat)
def utfOk (s : ByteArray) : Bool := okF s.size (byt s)

theorem byt_len (s : ByteArray) : (byt s).length = s.size := by
  show (s.data.toList.map _).length = s.data.size
  rw [List.length_map, Array.length_toList]
theorem byt_drop (s : ByteArray) (i : Nat) (hi : i < s.size) : (byt s).drop i = ((s[i]'hi).toNat : Int) :: (byt s).drop (i + 1) := by
  have hl : i < (byt s).length := by rw [byt_len]; exact hi
  rw [List.drop_eq_getElem_cons hl]
  congr 1
  simp only [byt, List.getElem_map, Array.getElem_toList]
  rfl
theorem byt_bd (s : ByteArray) : ∀ x ∈ byt s, 0 ≤ x ∧ x ≤ 255 := by
  intro x hx
  obtain ⟨b, _, rfl⟩ := List.mem_map.1 hx
  have := b.toNat_lt
  omega
theorem char_bd (l : List Int) : 0 ≤ char l ∧ char l ≤ 4 ∧ char l ≤ l.length := by
  cases l with
  | nil => simp [char]
  | cons x r =>
    simp only [char, List.length_cons]
    split
    · omega
    · split
      · omega
      · have hh : 0 ≤ (head x).1 ∧ (head x).1 ≤ 4 := by
          unfold head
          repeat' split
          all_goals simp
        unfold fin
        split
        · omega
        · split <;> omega
theorem getD_int (l : List UInt8) (k : Nat) : (l.map fun b => (b.toNat : Int)).getD k 0 = ((l.getD k 0).toNat : Int) := by
  simp only [List.getD, List.getElem?_map]
  cases l[k]? <;> simp
/-- the two ways agree on a first character -/
def Alike (c : Int) (d : Nat × Nat) : Prop := (c = 0 ∧ d = (65533, 1)) ∨ (¬ (d.1 = 65533 ∧ d.2 = 1) ∧ c = (d.2 : Int) ∧ 1 ≤ d.2)
theorem alike_bad {c : Int} (h : c = 0) : Alike c (65533, 1) := .inl ⟨h, rfl⟩
theorem alike_ok {c : Int} {v k : Nat} (h : c = k) (hk : 1 ≤ k) (hv : v ≠ 65533 ∨ k ≠ 1) : Alike c (v, k) := .inr ⟨by show ¬ (v = 65533 ∧ k = 1); omega, h, hk⟩
theorem head2 {x : Nat} (h : 194 ≤ x) (h' : x < 224) : head (x : Int) = (2, 128, (x : Int) % 32) := by unfold head; rw [if_pos (by omega)]
theorem head3 {x : Nat} (h : 224 ≤ x) (h' : x < 240) : head (x : Int) = (3, 2048, (x : Int) % 16) := by unfold head; rw [if_neg (by omega), if_pos (by omega)]
theorem head4 {x : Nat} (h : 240 ≤ x) (h' : x < 245) : head (x : Int) = (4, 65536, (x : Int) % 8) := by unfold head; rw [if_neg (by omega), if_neg (by omega), if_pos (by omega)]
theorem head0 {x : Nat} (h : x < 194 ∨ 245 ≤ x) : head (x : Int) = (0, 0, 0) := by unfold head; rw [if_neg (by omega), if_neg (by omega), if_neg (by omega)]
/-- two bytes -/
theorem alike2 (b0 b1 b2 b3 n : Nat) (h : 194 ≤ b0) (h' : b0 < 224) (h1 : b1 < 256) (hn : 2 ≤ n) :
    Alike (fin 2 128 (if (b1 : Int) < 128 ∨ 191 < (b1 : Int) then none else some ((b0 : Int) % 32 * 64 + (b1 : Int) % 64))) (Lib.decodeN n b0 b1 b2 b3) := by
  by_cases c : (b1 : Int) < 128 ∨ 191 < (b1 : Int)
  · rw [if_pos c]
    unfold Lib.decodeN
    rw [if_neg (by omega), if_neg (by omega), if_neg (by omega), if_neg (by omega)]
    exact alike_bad rfl
  · rw [if_neg c]
    simp only [fin]
    rw [if_neg (by omega)]
    unfold Lib.decodeN
    rw [if_neg (by omega), if_pos (by omega), if_pos (by omega)]
    exact alike_ok rfl (by omega) (.inr (by omega))
theorem alike3 (b0 b1 b2 b3 n : Nat) (h : 224 ≤ b0) (h' : b0 < 240) (h1 : b1 < 256) (h2 : b2 < 256) (hn : 3 ≤ n) :
    Alike (fin 3 2048 (if (b1 : Int) < 128 ∨ 191 < (b1 : Int) then none else if (b2 : Int) < 128 ∨ 191 < (b2 : Int) then none else some (((b0 : Int) % 16 * 64 + (b1 : Int) % 64) * 64 + (b2 : Int) % 64))) (Lib.decodeN n b0 b1 b2 b3) := by
  by_cases c : (b1 : Int) < 128 ∨ 191 < (b1 : Int)
  · rw [if_pos c]
    unfold Lib.decodeN
    rw [if_neg (by omega), if_neg (by omega), if_neg (by omega), if_neg (by omega)]
    exact alike_bad rfl
  · rw [if_neg c]
    by_cases d : (b2 : Int) < 128 ∨ 191 < (b2 : Int)
    · rw [if_pos d]
      unfold Lib.decodeN
      rw [if_neg (by omega), if_neg (by omega), if_neg (by omega), if_neg (by omega)]
      exact alike_bad rfl
    · rw [if_neg d]
      simp only [fin]
      split
      · rename_i hv
        unfold Lib.decodeN
        rw [if_neg (by omega), if_neg (by omega), if_pos (by omega), if_neg (by omega)]
        exact alike_bad rfl
      · rename_i hv
        unfold Lib.decodeN
        rw [if_neg (by omega), if_neg (by omega), if_pos (by omega), if_pos (by omega)]
        exact alike_ok rfl (by omega) (.inr (by omega))
theorem alike4 (b0 b1 b2 b3 n : Nat) (h : 240 ≤ b0) (h' : b0 < 245) (h1 : b1 < 256) (h2 : b2 < 256) (h3 : b3 < 256) (hn : 4 ≤ n) :
    Alike (fin 4 65536 (if (b1 : Int) < 128 ∨ 191 < (b1 : Int) then none else if (b2 : Int) < 128 ∨ 191 < (b2 : Int) then none else if (b3 : Int) < 128 ∨ 191 < (b3 : Int) then none else some ((((b0 : Int) % 8 * 64 + (b1 : Int) % 64) * 64 + (b2 : Int) % 64) * 64 + (b3 : Int) % 64))) (Lib.decodeN n b0 b1 b2 b3) := by
  by_cases c : (b1 : Int) < 128 ∨ 191 < (b1 : Int)
  · rw [if_pos c]
    unfold Lib.decodeN
    rw [if_neg (by omega), if_neg (by omega), if_neg (by omega), if_neg (by omega)]
    exact alike_bad rfl
  · rw [if_neg c]
    by_cases d : (b2 : Int) < 128 ∨ 191 < (b2 : Int)
    · rw [if_pos d]
      unfold Lib.decodeN
      rw [if_neg (by omega), if_neg (by omega), if_neg (by omega), if_neg (by omega)]
      exact alike_bad rfl
    · rw [if_neg d]
      by_cases e : (b3 : Int) < 128 ∨ 191 < (b3 : Int)
      · rw [if_pos e]
        unfold Lib.decodeN
        rw [if_neg (by omega), if_neg (by omega), if_neg (by omega), if_neg (by omega)]
        exact alike_bad rfl
      · rw [if_neg e]
        simp only [fin]
        split
        · rename_i hv
          unfold Lib.decodeN
          rw [if_neg (by omega), if_neg (by omega), if_neg (by omega), if_pos (by omega), if_neg (by omega)]
          exact alike_bad rfl
        · rename_i hv
          unfold Lib.decodeN
          rw [if_neg (by omega), if_neg (by omega), if_neg (by omega), if_pos (by omega), if_pos (by omega)]
          exact alike_ok rfl (by omega) (.inr (by omega))
/-- too few bytes -/
theorem alike_few (b0 b1 b2 b3 n : Nat) (h : (194 ≤ b0 ∧ b0 < 224 ∧ n < 2) ∨ (224 ≤ b0 ∧ b0 < 240 ∧ n < 3) ∨ (240 ≤ b0 ∧ b0 < 245 ∧ n < 4)) : Alike 0 (Lib.decodeN n b0 b1 b2 b3) := by
  unfold Lib.decodeN
  rw [if_neg (by omega), if_neg (by omega), if_neg (by omega), if_neg (by omega)]
  exact alike_bad rfl
abbrev mp (l : List UInt8) : List Int := l.map fun b => (b.toNat : Int)
/-- the first character of the library's decoder -/
theorem char_decode (l : List UInt8) (hne : l ≠ []) : Alike (char (mp l)) (Lib.decodeL l) := by
  rw [Lib.decodeL_N]
  match l, hne with
  | b0 :: r, _ =>
    have x0 := b0.toNat_lt
    have e0 : (b0 :: r).getD 0 0 = b0 := rfl
    rw [e0]
    by_cases c0 : b0.toNat < 128
    · have : Lib.decodeN (b0 :: r).length b0.toNat ((b0 :: r).getD 1 0).toNat ((b0 :: r).getD 2 0).toNat ((b0 :: r).getD 3 0).toNat = (b0.toNat, 1) := by
        unfold Lib.decodeN; rw [if_pos c0]
      rw [this]
      simp only [mp, List.map_cons, char]
      rw [if_pos (by omega)]
      exact alike_ok rfl (by omega) (.inl (by omega))
    · by_cases c1 : b0.toNat < 194 ∨ 245 ≤ b0.toNat
      · rw [Lib.decodeN_bad _ _ _ _ _ (by omega)]
        simp only [mp, List.map_cons, char]
        rw [if_neg (by omega), head0 c1, if_pos (.inl rfl)]
        exact alike_bad rfl
      · simp only [mp, List.map_cons, char]
        rw [if_neg (by omega)]
        rcases (by omega : (194 ≤ b0.toNat ∧ b0.toNat < 224) ∨ (224 ≤ b0.toNat ∧ b0.toNat < 240) ∨ (240 ≤ b0.toNat ∧ b0.toNat < 245)) with ⟨h, h'⟩ | ⟨h, h'⟩ | ⟨h, h'⟩
        · rw [head2 h h']
          match r with
          | [] =>
            rw [if_pos (by simp)]
            exact alike_few _ _ _ _ _ (by simp; omega)
          | b1 :: r =>
            rw [if_neg (by simp; omega)]
            exact alike2 _ _ _ _ _ h h' b1.toNat_lt (by simp)
        · rw [head3 h h']
          match r with
          | [] =>
            rw [if_pos (by simp)]
            exact alike_few _ _ _ _ _ (by simp; omega)
          | [b1] =>
            rw [if_pos (by simp)]
            exact alike_few _ _ _ _ _ (by simp; omega)
          | b1 :: b2 :: r =>
            rw [if_neg (by simp; omega)]
            exact alike3 _ _ _ _ _ h h' b1.toNat_lt b2.toNat_lt (by simp)
        · rw [head4 h h']
          match r with
          | [] =>
            rw [if_pos (by simp)]
            exact alike_few _ _ _ _ _ (by simp; omega)
          | [b1] =>
            rw [if_pos (by simp)]
            exact alike_few _ _ _ _ _ (by simp; omega)
          | [b1, b2] =>
            rw [if_pos (by simp)]
            exact alike_few _ _ _ _ _ (by simp; omega)
          | b1 :: b2 :: b3 :: r =>
            rw [if_neg (by simp; omega)]
            exact alike4 _ _ _ _ _ h h' b1.toNat_lt b2.toNat_lt b3.toNat_lt (by simp)
theorem okF_valid : ∀ (f : Nat) (l : List UInt8), l.length ≤ f → okF f (l.map fun b => (b.toNat : Int)) = Lib.validD l
  | 0, l, h => by
    have : l = [] := List.eq_nil_of_length_eq_zero (by omega)
    subst this
    rfl
  | f + 1, l, h => by
    by_cases hne : l = []
    · subst hne; rfl
    · rw [okF, if_neg (by simpa using hne), Lib.validD_step l hne]
      rcases char_decode l hne with ⟨h0, h1⟩ | ⟨h0, h1, h2⟩
      · rw [if_pos (show char (mp l) = 0 from h0), if_pos (by rw [h1]; exact ⟨rfl, rfl⟩)]
      · rw [if_neg (show ¬ char (mp l) = 0 from by rw [h1]; omega), if_neg h0, show char (List.map (fun b => (b.toNat : Int)) l) = _ from h1, Int.toNat_natCast, ← List.map_drop]
        have hw := Lib.decodeL_width l
        exact okF_valid f _ (by rw [List.length_drop]; omega)
theorem utfOk_valid (s : ByteArray) : utfOk s = Lib.validD s.data.toList := okF_valid s.size s.data.toList (by show s.data.toList.length ≤ s.data.size; rw [Array.length_toList]; exact Nat.le_refl _)
theorem okF_fuel : ∀ (f g : Nat) (l : List Int), l.length ≤ f → l.length ≤ g → okF f l = okF g l
  | 0, g, l, h, _ => by
    have : l = [] := List.eq_nil_of_length_eq_zero (by omega)
    subst this
    cases g <;> rfl
  | f + 1, 0, l, _, h => by
    have : l = [] := List.eq_nil_of_length_eq_zero (by omega)
    subst this
    rfl
  | f + 1, g + 1, l, h, h' => by
    by_cases hne : l = []
    · subst hne; rfl
    · have hc := char_bd l
      rw [okF, okF, if_neg hne, if_neg hne]
      split
      · rfl
      · exact okF_fuel f g _ (by rw [List.length_drop]; omega) (by rw [List.length_drop]; omega)
end Go.Proofs.YtiinkfejdnfonaaGreatDoor.Utf
