/- Plain laws on the sections of a module's bytes. No program in sight. -/
import Derived.Test.YtflecejioaokmaaLeb
namespace Go.Proofs.Ytflecejioaokmaa.Sec
open Go.RowKit Go.Proofs.Ytflecejioaokmaa.Num Go.Proofs.Ytflecejioaokmaa.Leb

def ids8 : List Int := [1, 2, 3, 5, 6, 7, 10, 11]
def head8 : List Int := [0, 97, 115, 109, 1, 0, 0, 0]
/-- the sections from a place on, behind those with the numbers acc, the last of them 'last' -/
def cutF : Nat → List Int → Nat → Int → List Int → Option (List Int)
  | 0, _, _, _, acc => some acc
  | f + 1, bs, a, last, acc =>
    if bs.length ≤ a then some acc
    else
      let id := bs.getD a 0
      let r := getU bs ((a : Int) + 1)
      if id ∉ ids8 ∨ id ≤ last ∨ r.2.2 = false ∨ (bs.length : Int) - r.2.1 < r.1 then none
      else cutF f bs (r.2.1 + r.1).toNat id (acc ++ [id])
def sections (bs : List Int) : Option (List Int) := if bs.length < 8 ∨ bs.take 8 ≠ head8 then none else cutF (bs.length + 1) bs 8 0 []
section
variable {bs : List Int} {a f : Nat} {last id size next : Int} {acc : List Int}
theorem cut_end (h : bs.length ≤ a) : cutF (f + 1) bs a last acc = some acc := by rw [cutF, if_pos h]
theorem cut_bad (h : a < bs.length) (hid : bs.getD a 0 = id) {ok : Bool} (hu : getU bs ((a : Int) + 1) = (size, next, ok)) (hb : id ∉ ids8 ∨ id ≤ last ∨ ok = false ∨ (bs.length : Int) - next < size) : cutF (f + 1) bs a last acc = none := by
  rw [cutF, if_neg (by omega)]
  simp only [hid, hu]
  rw [if_pos hb]
theorem cut_more (h : a < bs.length) (hid : bs.getD a 0 = id) (hu : getU bs ((a : Int) + 1) = (size, next, true)) (h1 : id ∈ ids8) (h2 : last < id) (h3 : size ≤ (bs.length : Int) - next) : cutF (f + 1) bs a last acc = cutF f bs (next + size).toNat id (acc ++ [id]) := by
  rw [cutF, if_neg (by omega)]
  simp only [hid, hu]
  rw [if_neg (by simp [h1]; omega)]
end
/-- more fuel changes nothing where there is enough -/
theorem cut_fuel (bs : List Int) (hx : ∀ x ∈ bs, 0 ≤ x ∧ x ≤ 255) : ∀ (f g a : Nat) (last : Int) (acc : List Int), bs.length < a + f → bs.length < a + g → cutF f bs a last acc = cutF g bs a last acc
  | 0, g, a, last, acc, h, h' => by
    cases g with
    | zero => rfl
    | succ g => rw [cut_end (by omega)]; rfl
  | f + 1, 0, a, last, acc, h, h' => by rw [cut_end (by omega)]; rfl
  | f + 1, g + 1, a, last, acc, h, h' => by
    by_cases ha : bs.length ≤ a
    · rw [cut_end ha, cut_end ha]
    · obtain ⟨size, next, ok, hu⟩ : ∃ size next ok, getU bs ((a : Int) + 1) = (size, next, ok) := ⟨_, _, _, rfl⟩
      by_cases hb : bs.getD a 0 ∉ ids8 ∨ bs.getD a 0 ≤ last ∨ ok = false ∨ (bs.length : Int) - next < size
      · rw [cut_bad (by omega) rfl hu hb, cut_bad (by omega) rfl hu hb]
      · have hok : ok = true := by
          cases ok
          · exact absurd (.inr (.inr (.inl rfl))) hb
          · rfl
        subst hok
        have h1 : bs.getD a 0 ∈ ids8 := Classical.not_not.1 fun h1 => hb (.inl h1)
        have h2 : last < bs.getD a 0 := by
          rcases Int.lt_or_le last (bs.getD a 0) with h2 | h2
          · exact h2
          · exact absurd (.inr (.inl h2)) hb
        have h3 : size ≤ (bs.length : Int) - next := by
          rcases Int.lt_or_le ((bs.length : Int) - next) size with h3 | h3
          · exact absurd (.inr (.inr (.inr h3))) hb
          · exact h3
        have ht := getU_true hx hu
        rw [cut_more (by omega) rfl hu h1 h2 h3, cut_more (by omega) rfl hu h1 h2 h3]
        exact cut_fuel bs hx f g _ _ _ (by omega) (by omega)
theorem ids_le {x : Int} (h : x ∈ ids8) : 1 ≤ x ∧ x ≤ 11 := by
  simp only [ids8, List.mem_cons, List.not_mem_nil, or_false] at h
  omega
end Go.Proofs.Ytflecejioaokmaa.Sec
