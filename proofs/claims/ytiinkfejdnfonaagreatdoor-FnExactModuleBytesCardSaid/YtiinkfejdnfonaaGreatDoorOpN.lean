/- The operations: their numbers and their names, as plain lists, and what is known of them. No program in sight. -/
import Derived.WalkKit
namespace Go.Proofs.YtiinkfejdnfonaaGreatDoor.Ops
open Go.RowKit

def ops1 : List Int := [0, 1, 2, 3, 4, 5, 11, 12, 13, 15, 16, 26, 27, 32, 33, 34, 35, 36, 40, 54, 63, 64, 65, 69]
def names1 : List ByteArray := [⟨#[117, 110, 114, 101, 97, 99, 104, 97, 98, 108, 101]⟩, ⟨#[110, 111, 112]⟩, ⟨#[98, 108, 111, 99, 107]⟩, ⟨#[108, 111, 111, 112]⟩, ⟨#[105, 102]⟩, ⟨#[101, 108, 115, 101]⟩, ⟨#[101, 110, 100]⟩, ⟨#[98, 114]⟩, ⟨#[98, 114, 95, 105, 102]⟩, ⟨#[114, 101, 116, 117, 114, 110]⟩, ⟨#[99, 97, 108, 108]⟩, ⟨#[100, 114, 111, 112]⟩, ⟨#[115, 101, 108, 101, 99, 116]⟩, ⟨#[108, 111, 99, 97, 108, 46, 103, 101, 116]⟩, ⟨#[108, 111, 99, 97, 108, 46, 115, 101, 116]⟩, ⟨#[108, 111, 99, 97, 108, 46, 116, 101, 101]⟩, ⟨#[103, 108, 111, 98, 97, 108, 46, 103, 101, 116]⟩, ⟨#[103, 108, 111, 98, 97, 108, 46, 115, 101, 116]⟩, ⟨#[105, 51, 50, 46, 108, 111, 97, 100]⟩, ⟨#[105, 51, 50, 46, 115, 116, 111, 114, 101]⟩, ⟨#[109, 101, 109, 111, 114, 121, 46, 115, 105, 122, 101]⟩, ⟨#[109, 101, 109, 111, 114, 121, 46, 103, 114, 111, 119]⟩, ⟨#[105, 51, 50, 46, 99, 111, 110, 115, 116]⟩, ⟨#[105, 51, 50, 46, 101, 113, 122]⟩]
def cmps : List ByteArray := [⟨#[101, 113]⟩, ⟨#[110, 101]⟩, ⟨#[108, 116, 95, 115]⟩, ⟨#[108, 116, 95, 117]⟩, ⟨#[103, 116, 95, 115]⟩, ⟨#[103, 116, 95, 117]⟩, ⟨#[108, 101, 95, 115]⟩, ⟨#[108, 101, 95, 117]⟩, ⟨#[103, 101, 95, 115]⟩, ⟨#[103, 101, 95, 117]⟩]
def nums : List ByteArray := [⟨#[99, 108, 122]⟩, ⟨#[99, 116, 122]⟩, ⟨#[112, 111, 112, 99, 110, 116]⟩, ⟨#[97, 100, 100]⟩, ⟨#[115, 117, 98]⟩, ⟨#[109, 117, 108]⟩, ⟨#[100, 105, 118, 95, 115]⟩, ⟨#[100, 105, 118, 95, 117]⟩, ⟨#[114, 101, 109, 95, 115]⟩, ⟨#[114, 101, 109, 95, 117]⟩, ⟨#[97, 110, 100]⟩, ⟨#[111, 114]⟩, ⟨#[120, 111, 114]⟩, ⟨#[115, 104, 108]⟩, ⟨#[115, 104, 114, 95, 115]⟩, ⟨#[115, 104, 114, 95, 117]⟩, ⟨#[114, 111, 116, 108]⟩, ⟨#[114, 111, 116, 114]⟩]
def i32 : ByteArray := ⟨#[105, 51, 50, 46]⟩
def ops2 : List Int := [70, 71, 72, 73, 74, 75, 76, 77, 78, 79]
def ops3 : List Int := [103, 104, 105, 106, 107, 108, 109, 110, 111, 112, 113, 114, 115, 116, 117, 118, 119, 120]
def allOps : List Int := ops1 ++ (ops2 ++ ops3)
def allNames : List ByteArray := names1 ++ (cmps.map (i32 ++ ·) ++ nums.map (i32 ++ ·))
/-- the name of an operation; empty where there is none -/
def opName (op : Int) : ByteArray := ((allOps.zip allNames).find? (fun p => p.1 == op)).elim ⟨#[]⟩ (·.2)
def known (op : Int) : Bool := allOps.contains op
/-- the operation that a name tells; -1 where there is none -/
def nameOp (s : ByteArray) : Int := ((allOps.zip allNames).find? (fun p => decide (p.2 = s))).elim (-1) (·.1)

theorem len1 : ops1.length = 24 := rfl
theorem lenN1 : names1.length = 24 := rfl
theorem name1 : ∀ k : Fin 24, opName (ops1.getD k.1 0) = names1.getD k.1 ⟨#[]⟩ := by decide +kernel
theorem name2 : ∀ k : Fin 10, opName (70 + k.1) = i32 ++ cmps.getD k.1 ⟨#[]⟩ := by decide +kernel
theorem name3 : ∀ k : Fin 18, opName (103 + k.1) = i32 ++ nums.getD k.1 ⟨#[]⟩ := by decide +kernel
theorem nameOk : ∀ k : Fin 52, (opName (allOps.getD k.1 0)).size ≠ 0 := by decide +kernel
theorem mem_all {op : Int} : op ∈ allOps ↔ op ∈ ops1 ∨ (70 ≤ op ∧ op ≤ 79) ∨ (103 ≤ op ∧ op ≤ 120) := by
  unfold allOps
  rw [List.mem_append, List.mem_append]
  have h2 : op ∈ ops2 ↔ 70 ≤ op ∧ op ≤ 79 := by simp only [ops2, List.mem_cons, List.not_mem_nil, or_false]; omega
  have h3 : op ∈ ops3 ↔ 103 ≤ op ∧ op ≤ 120 := by simp only [ops3, List.mem_cons, List.not_mem_nil, or_false]; omega
  rw [h2, h3]
theorem find_none {op : Int} : ∀ (l : List Int) (m : List ByteArray), op ∉ l → (l.zip m).find? (fun p => p.1 == op) = none
  | [], _, _ => by simp
  | _ :: _, [], _ => by simp
  | a :: l, b :: m, h => by
    simp only [List.mem_cons, not_or] at h
    simp only [List.zip_cons_cons, List.find?_cons]
    have : (a == op) = false := by simp only [beq_eq_false_iff_ne, ne_eq]; exact fun e => h.1 e.symm
    rw [this]
    exact find_none l m h.2
theorem name_none {op : Int} (h : op ∉ allOps) : opName op = ⟨#[]⟩ := by
  unfold opName
  rw [find_none _ _ h]
  rfl
theorem known_iff {op : Int} : known op = true ↔ op ∈ allOps := by simp [known]
theorem known_false {op : Int} : known op = false ↔ op ∉ allOps := by simp [known]
theorem name_known {op : Int} (h : known op = true) : (opName op).size ≠ 0 := by
  obtain ⟨k, hk, rfl⟩ := List.getElem_of_mem (known_iff.1 h)
  have := nameOk ⟨k, hk⟩
  simpa [List.getD, List.getElem?_eq_getElem hk] using this
theorem name_unknown {op : Int} (h : known op = false) : opName op = ⟨#[]⟩ := name_none (known_false.1 h)
theorem name_at1 {op : Int} {k : Nat} (h : ops1[k]? = some op) : names1[k]? = some (opName op) := by
  obtain ⟨hk, hv⟩ := List.getElem?_eq_some_iff.1 h
  have h1 := name1 ⟨k, hk⟩
  have hn : k < names1.length := hk
  simp only [List.getD, List.getElem?_eq_getElem hk, hv, List.getElem?_eq_getElem hn, Option.getD_some] at h1
  rw [List.getElem?_eq_getElem hn, h1]
theorem name_at2 {op : Int} (h0 : 70 ≤ op) (h1 : op ≤ 79) : ∃ c, cmps[(op - 70).toNat]? = some c ∧ opName op = i32 ++ c ∧ c.size ≤ 1000 := by
  obtain ⟨k, rfl⟩ : ∃ k : Nat, op = 70 + k := ⟨(op - 70).toNat, by omega⟩
  have hk : k < cmps.length := by show k < 10; omega
  have h2 := name2 ⟨k, hk⟩
  have e : (70 + (k : Int) - 70).toNat = k := by omega
  rw [e]
  refine ⟨cmps[k], List.getElem?_eq_getElem hk, ?_, ?_⟩
  · simpa [List.getD, List.getElem?_eq_getElem hk] using h2
  · exact (by decide +kernel : ∀ c ∈ cmps, c.size ≤ 1000) _ (List.getElem_mem hk)
theorem name_at3 {op : Int} (h0 : 103 ≤ op) (h1 : op ≤ 120) : ∃ c, nums[(op - 103).toNat]? = some c ∧ opName op = i32 ++ c ∧ c.size ≤ 1000 := by
  obtain ⟨k, rfl⟩ : ∃ k : Nat, op = 103 + k := ⟨(op - 103).toNat, by omega⟩
  have hk : k < nums.length := by show k < 18; omega
  have h2 := name3 ⟨k, hk⟩
  have e : (103 + (k : Int) - 103).toNat = k := by omega
  rw [e]
  refine ⟨nums[k], List.getElem?_eq_getElem hk, ?_, ?_⟩
  · simpa [List.getD, List.getElem?_eq_getElem hk] using h2
  · exact (by decide +kernel : ∀ c ∈ nums, c.size ≤ 1000) _ (List.getElem_mem hk)
end Go.Proofs.YtiinkfejdnfonaaGreatDoor.Ops
