/- Plain laws on numbers read from texts: what is written is read again, and nothing else. No program in sight. -/
import Derived.Test.YtiinkfejdnfonaaDoorUtfN
import Derived.Test.YtiinkfejdnfonaaDoorDig
import Derived.Lib.AtoiAllCases
namespace Go.Proofs.YtiinkfejdnfonaaDoor.Tn
open Go.RowKit Go.Proofs.YtiinkfejdnfonaaDoor.Num Go.Proofs.YtiinkfejdnfonaaDoor.Dig Go.Proofs.YtiinkfejdnfonaaDoor.Utf

/-- digits taken together; none where a byte is no digit -/
def valF : Int → List Int → Option Int
  | acc, [] => some acc
  | acc, y :: r => if y < 48 ∨ 57 < y then none else valF (acc * 10 + (y - 48)) r
theorem valF_bad {acc y : Int} {r : List Int} (h : y < 48 ∨ 57 < y) : valF acc (y :: r) = none := by rw [valF, if_pos h]
theorem valF_ok {acc y : Int} {r : List Int} (h : 48 ≤ y) (h' : y ≤ 57) : valF acc (y :: r) = valF (acc * 10 + (y - 48)) r := by rw [valF, if_neg (by omega)]
theorem valF_snoc : ∀ (l : List Int) (acc y n : Int), valF acc l = some n → 48 ≤ y → y ≤ 57 → valF acc (l ++ [y]) = some (n * 10 + (y - 48))
  | [], acc, y, n, h, h0, h1 => by
    simp only [valF, Option.some.injEq] at h
    subst h
    rw [List.nil_append, valF_ok h0 h1]; rfl
  | z :: l, acc, y, n, h, h0, h1 => by
    by_cases hz : z < 48 ∨ 57 < z
    · rw [valF_bad hz] at h; cases h
    · rw [valF_ok (by omega) (by omega)] at h
      rw [List.cons_append, valF_ok (by omega) (by omega)]
      exact valF_snoc l _ y n h h0 h1
theorem valF_le : ∀ (l : List Int) (acc n : Int), 0 ≤ acc → valF acc l = some n → acc ≤ n
  | [], acc, n, _, h => by simp only [valF, Option.some.injEq] at h; omega
  | z :: l, acc, n, h0, h => by
    by_cases hz : z < 48 ∨ 57 < z
    · rw [valF_bad hz] at h; cases h
    · rw [valF_ok (by omega) (by omega)] at h
      have := valF_le l _ n (by omega) h
      omega
theorem byt_app (a b : ByteArray) : byt (a ++ b) = byt a ++ byt b := by simp [byt]
theorem byt_one (u : Nat) (h : u < 10) : byt (strOfNums [48 + (u : Int)]) = [48 + (u : Int)] := by
  rcases (by omega : u = 0 ∨ u = 1 ∨ u = 2 ∨ u = 3 ∨ u = 4 ∨ u = 5 ∨ u = 6 ∨ u = 7 ∨ u = 8 ∨ u = 9) with rfl | rfl | rfl | rfl | rfl | rfl | rfl | rfl | rfl | rfl <;> rfl
theorem val_dt (u : Nat) : valF 0 (byt (dt u)) = some (u : Int) := by
  induction u using Nat.strongRecOn with
  | _ u ih =>
    by_cases h : u < 10
    · rw [dt_small u h, byt_one u h, valF_ok (by omega) (by omega)]
      simp only [valF]
      congr 1
      omega
    · rw [dt_big u h, byt_app, byt_one _ (by omega), valF_snoc _ 0 _ _ (ih (u / 10) (by omega)) (by omega) (by omega)]
      congr 1
      omega
theorem dt_cons (u : Nat) : ∃ y r, byt (dt u) = y :: r ∧ 48 ≤ y ∧ y ≤ 57 := by
  have hv := val_dt u
  cases hb : byt (dt u) with
  | nil =>
    exfalso
    have h1 : (byt (dt u)).length = (dt u).size := byt_len _
    rw [hb] at h1
    have h2 : 1 ≤ (dt u).size := by
      by_cases h : u < 10
      · rw [dt_small u h, str_one]; exact Nat.le_refl _
      · rw [dt_big u h, ByteArray.size_append, str_one]; omega
    simp at h1
    omega
  | cons y r =>
    refine ⟨y, r, rfl, ?_⟩
    by_cases hz : y < 48 ∨ 57 < y
    · rw [hb, valF_bad hz] at hv; cases hv
    · omega
/-- what a text tells as a number, whatever its form -/
def parse (s : ByteArray) : Option Int :=
  match byt s with
  | [] => none
  | x :: r => if x = 45 then (valF 0 r).map (fun n => -n) else valF 0 (x :: r)
theorem parse_nt (v : Int) : parse (nt v) = some v := by
  by_cases h : v < 0
  · obtain ⟨u, rfl⟩ : ∃ u : Nat, v = -(u : Int) := ⟨(-v).toNat, by omega⟩
    have e : byt (⟨#[45]⟩ ++ dt u) = 45 :: byt (dt u) := by rw [byt_app]; rfl
    unfold parse
    rw [nt_neg u (by omega), e]
    simp only
    rw [if_pos trivial, val_dt]
    rfl
  · obtain ⟨u, rfl⟩ : ∃ u : Nat, v = (u : Int) := ⟨v.toNat, by omega⟩
    obtain ⟨y, r, hy, h0, h1⟩ := dt_cons u
    unfold parse
    rw [nt_pos, hy]
    simp only
    rw [if_neg (by omega), ← hy, val_dt]
theorem nt_size (v : Int) (h0 : -2147483648 ≤ v) (h1 : v ≤ 2147483647) : 1 ≤ (nt v).size ∧ (nt v).size ≤ 11 := by
  by_cases h : v < 0
  · obtain ⟨u, rfl⟩ : ∃ u : Nat, v = -(u : Int) := ⟨(-v).toNat, by omega⟩
    rw [nt_neg u (by omega), ByteArray.size_append]
    have := dt_len 9 u (by omega)
    have e : (⟨#[45]⟩ : ByteArray).size = 1 := rfl
    omega
  · obtain ⟨u, rfl⟩ : ∃ u : Nat, v = (u : Int) := ⟨v.toNat, by omega⟩
    rw [nt_pos]
    have := dt_len 9 u (by omega)
    obtain ⟨y, r, hy, _⟩ := dt_cons u
    have hl := byt_len (dt u)
    rw [hy, List.length_cons] at hl
    omega
/-- what TextNum hands back: the number that the text is written of, and true; 0 and false where there is none -/
def TN (s : ByteArray) (e : Ending) : Prop :=
  (∃ v : Int, -2147483648 ≤ v ∧ v ≤ 2147483647 ∧ s = nt v ∧ e = .returned (.tuple #[.int .i64 v, .bool true])) ∨ ((∀ v : Int, -2147483648 ≤ v → v ≤ 2147483647 → s ≠ nt v) ∧ e = .returned (.tuple #[.int .i64 0, .bool false]))
theorem nt_inj {v v' : Int} (h : nt v = nt v') : v = v' := by
  have h1 := parse_nt v
  rw [h, parse_nt v'] at h1
  exact (Option.some.inj h1).symm
theorem no_none {s : ByteArray} (h : parse s = none) : ∀ v : Int, -2147483648 ≤ v → v ≤ 2147483647 → s ≠ nt v := fun v _ _ e => by
  rw [e, parse_nt] at h; cases h
theorem no_bad {s : ByteArray} {n : Int} (h : parse s = some n) (hb : (n < -2147483648 ∨ 2147483647 < n) ∨ nt n ≠ s) : ∀ v : Int, -2147483648 ≤ v → v ≤ 2147483647 → s ≠ nt v := fun v h0 h1 e => by
  rw [e, parse_nt] at h
  have hv := Option.some.inj h
  subst hv
  rcases hb with hb | hb
  · omega
  · exact hb e.symm
theorem no_size {s : ByteArray} (h : s.size < 1 ∨ 11 < s.size) : ∀ v : Int, -2147483648 ≤ v → v ≤ 2147483647 → s ≠ nt v := fun v h0 h1 e => by
  have := nt_size v h0 h1
  rw [← e] at this
  omega
theorem tn_same {s : ByteArray} {e e' : Ending} (h : TN s e) (h' : TN s e') : e = e' := by
  rcases h with ⟨v, h0, h1, hs, he⟩ | ⟨hn, he⟩
  · rcases h' with ⟨v', _, _, hs', he'⟩ | ⟨hn', he'⟩
    · rw [he, he', nt_inj (hs.symm.trans hs')]
    · exact absurd hs (hn' v h0 h1)
  · rcases h' with ⟨v', h0, h1, hs', he'⟩ | ⟨hn', he'⟩
    · exact absurd hs' (hn v' h0 h1)
    · rw [he, he']
/-- the library's reader, at digits -/
theorem mp_val : ∀ (l : List UInt8) (acc : Nat) (n : Int), valF (acc : Int) (mp l) = some n → n < 1844674407370955161 → Lib.parseUint10 acc l = .ok n.toNat
  | [], acc, n, h, _ => by
    simp only [mp, List.map_nil, valF, Option.some.injEq] at h
    subst h
    rfl
  | c :: l, acc, n, h, hn => by
    have e : mp (c :: l) = (c.toNat : Int) :: mp l := rfl
    rw [e] at h
    by_cases hz : (c.toNat : Int) < 48 ∨ 57 < (c.toNat : Int)
    · rw [valF_bad hz] at h; cases h
    · rw [valF_ok (by omega) (by omega)] at h
      have e2 : (acc : Int) * 10 + ((c.toNat : Int) - 48) = ((acc * 10 + (c.toNat - 48) : Nat) : Int) := by omega
      rw [e2] at h
      have hle := valF_le _ _ n (by omega) h
      rw [Lib.parseUint10, if_pos (by omega), if_neg (by omega), if_neg (by omega)]
      exact mp_val l _ n h hn
theorem nt_list_neg (u : Nat) (h : 0 < u) : (nt (-(u : Int))).data.toList = 45 :: Lib.decDigits u := by unfold nt; rw [Lib.itoa_neg u (by omega)]
theorem nt_list_pos (u : Nat) : (nt (u : Int)).data.toList = Lib.decDigits u := by unfold nt; rw [Lib.itoa_nonneg u]
theorem byt_dt (u : Nat) : mp (Lib.decDigits u) = byt (dt u) := rfl
theorem mag_dt (u : Nat) (h : u < 1844674407370955161) : Lib.parseMag (Lib.decDigits u) = .ok u := by
  have hne : Lib.decDigits u ≠ [] := by
    intro e
    obtain ⟨y, r, hy, _⟩ := dt_cons u
    rw [← byt_dt, e] at hy
    cases hy
  unfold Lib.parseMag
  rw [if_neg hne]
  have := mp_val (Lib.decDigits u) 0 u (by rw [byt_dt]; exact val_dt u) (by omega)
  rw [this, Int.toNat_natCast]
/-- what strconv.Itoa writes, strconv.Atoi reads -/
theorem atoi_nt (v : Int) (h0 : -2147483648 ≤ v) (h1 : v ≤ 2147483647) : Lib.atoiAll (nt v).data.toList = .ok v := by
  by_cases h : v < 0
  · obtain ⟨u, rfl⟩ : ∃ u : Nat, v = -(u : Int) := ⟨(-v).toNat, by omega⟩
    rw [nt_list_neg u (by omega)]
    unfold Lib.atoiAll
    have hm := mag_dt u (by omega)
    simp only [show (45 : UInt8).toNat = 45 from rfl, or_true, if_true, hm]
    rw [if_neg (by omega), if_neg (by omega)]
  · obtain ⟨u, rfl⟩ : ∃ u : Nat, v = (u : Int) := ⟨v.toNat, by omega⟩
    rw [nt_list_pos]
    have hm := mag_dt u (by omega)
    obtain ⟨y, r, hy, hy0, hy1⟩ := dt_cons u
    rw [← byt_dt] at hy
    cases hd : Lib.decDigits u with
    | nil => rw [hd] at hy; cases hy
    | cons c t =>
      rw [hd] at hy hm
      have hc : (c.toNat : Int) = y := by injection hy
      rw [Lib.atoiAll_plain c t (by omega) (by omega), hm]
      unfold Lib.signless
      simp only
      rw [if_neg (by omega)]
end Go.Proofs.YtiinkfejdnfonaaDoor.Tn
