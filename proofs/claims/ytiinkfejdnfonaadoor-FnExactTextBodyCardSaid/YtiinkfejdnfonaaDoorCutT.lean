/- A body's text, read: plain laws. No program in sight. -/
import Derived.Test.YtiinkfejdnfonaaDoorCutN
namespace Go.Proofs.YtiinkfejdnfonaaDoor.Cut
open Go.RowKit Go.Proofs.YtiinkfejdnfonaaDoor.Num Go.Proofs.YtiinkfejdnfonaaDoor.NumC Go.Proofs.YtiinkfejdnfonaaDoor.Mem Go.Proofs.YtiinkfejdnfonaaDoor.Ops Go.Proofs.YtiinkfejdnfonaaDoor.Shape Go.Proofs.YtiinkfejdnfonaaDoor.Bt Go.Proofs.YtiinkfejdnfonaaDoor.Tn Go.Proofs.YtiinkfejdnfonaaDoor.Dig

theorem dec_no : ∀ (n u : Nat), u ≤ n → (59 : UInt8) ∉ Lib.decDigits u ∧ (32 : UInt8) ∉ Lib.decDigits u
  | n, u, h => by
    have dig : ∀ k : Nat, k < 10 → (59 : UInt8) ≠ UInt8.ofNat (48 + k) ∧ (32 : UInt8) ≠ UInt8.ofNat (48 + k) := by decide
    by_cases h10 : u < 10
    · rw [Lib.decDigits_one h10]
      simp only [List.mem_singleton]
      exact dig u h10
    · rw [Lib.decDigits, dif_neg h10]
      simp only [List.mem_append, List.mem_singleton, not_or]
      match n, h with
      | 0, h => omega
      | n + 1, h =>
        have ih := dec_no n (u / 10) (by omega)
        have := dig (u % 10) (by omega)
        exact ⟨⟨ih.1, this.1⟩, ⟨ih.2, this.2⟩⟩
theorem nt_no (v : Int) : (59 : UInt8) ∉ (nt v).data.toList := by
  by_cases h : v < 0
  · obtain ⟨u, rfl⟩ : ∃ u : Nat, v = -(u : Int) := ⟨(-v).toNat, by omega⟩
    rw [nt_list_neg u (by omega)]
    simp only [List.mem_cons, not_or]
    exact ⟨by decide, (dec_no u u (Nat.le_refl _)).1⟩
  · obtain ⟨u, rfl⟩ : ∃ u : Nat, v = (u : Int) := ⟨v.toNat, by omega⟩
    rw [nt_list_pos]
    exact (dec_no u u (Nat.le_refl _)).1
theorem name_no (op : Int) : (59 : UInt8) ∉ (opName op).data.toList := by
  by_cases h : op ∈ allOps
  · obtain ⟨k, hk, rfl⟩ := List.getElem_of_mem h
    have h1 : allOps[k]? = some (allOps[k]) := List.getElem?_eq_getElem hk
    exact (by decide +kernel : ∀ c ∈ allNames, (59 : UInt8) ∉ c.data.toList) _ (List.mem_of_getElem? (name_at h1))
  · rw [name_none h]; decide
theorem app_no {a b : ByteArray} (h : (59 : UInt8) ∉ a.data.toList) (h' : (59 : UInt8) ∉ b.data.toList) : (59 : UInt8) ∉ (a ++ b).data.toList := by
  simp only [ByteArray.data_append, Array.toList_append, List.mem_append, not_or]
  exact ⟨h, h'⟩
theorem txt_no (i : Ins3) : (59 : UInt8) ∉ (txt i).data.toList := by
  have hs : (59 : UInt8) ∉ sp.data.toList := by decide
  unfold txt txtK
  split
  · exact name_no _
  · split
    · exact app_no (app_no (name_no _) (app_no hs (nt_no _))) (app_no hs (nt_no _))
    · exact app_no (name_no _) (app_no hs (nt_no _))
/-- the number that a text tells, 0 where there is none -/
def tnum (s : ByteArray) : Int :=
  match parse s with
  | some v => if -2147483648 ≤ v ∧ v ≤ 2147483647 ∧ s = nt v then v else 0
  | none => 0
theorem tn_val {s : ByteArray} {e : Ending} (h : TN s e) : ∃ ok, e = .returned (.tuple #[.int .i64 (tnum s), .bool ok]) := by
  rcases h with ⟨v, h0, h1, rfl, rfl⟩ | ⟨h, rfl⟩
  · refine ⟨true, ?_⟩
    unfold tnum
    rw [parse_nt]
    simp only
    rw [if_pos ⟨h0, h1, trivial⟩]
  · refine ⟨false, ?_⟩
    unfold tnum
    split
    · rw [if_neg (fun hh => h _ hh.1 hh.2.1 hh.2.2)]
    · rfl
theorem tnum_bd (s : ByteArray) : -2147483648 ≤ tnum s ∧ tnum s ≤ 2147483647 := by
  unfold tnum
  split
  · split
    · rename_i h; exact ⟨h.1, h.2.1⟩
    · omega
  · omega
/-- a text's pieces between the bytes c -/
def cutW (c : UInt8) (s : ByteArray) : List ByteArray := (cutB c s.data.toList).map fun l => ⟨l.toArray⟩
theorem cutW_data (c : UInt8) (s : ByteArray) : (cutW c s).map (·.data.toList) = cutB c s.data.toList := by
  unfold cutW
  rw [List.map_map]
  conv => rhs; rw [← List.map_id (cutB c s.data.toList)]
  exact List.map_congr_left fun x _ => by simp
theorem cutW_ne (c : UInt8) (s : ByteArray) : cutW c s ≠ [] := by
  unfold cutW
  intro h
  exact cutB_ne c _ (List.map_eq_nil_iff.1 h)
theorem cutW_len (c : UInt8) (s : ByteArray) : (cutW c s).length ≤ s.size + 1 := by
  have := cutB_len c s.data.toList
  unfold cutW
  rw [List.length_map]
  have e : s.data.toList.length = s.size := by simp
  omega
theorem cutB_piece (c : UInt8) : ∀ l, ∀ p ∈ cutB c l, p.length ≤ l.length
  | [], p, h => by
    simp [cutB] at h
    subst h
    simp
  | b :: l, p, h => by
    have ih := cutB_piece c l
    by_cases hb : b = c
    · rw [cutB, if_pos hb] at h
      rcases List.mem_cons.1 h with rfl | h
      · simp
      · have := ih p h
        simp only [List.length_cons]
        omega
    · rw [cutB, if_neg hb] at h
      obtain ⟨x, xs, hx⟩ := List.exists_cons_of_ne_nil (cutB_ne c l)
      rw [hx] at h ih
      rcases List.mem_cons.1 h with rfl | h
      · have := ih x (by simp)
        simp only [List.headD_cons, List.length_cons]
        omega
      · have := ih p (List.mem_cons_of_mem _ h)
        simp only [List.length_cons]
        omega
theorem cutW_piece (c : UInt8) (s : ByteArray) : ∀ p ∈ cutW c s, p.size ≤ s.size := by
  intro p hp
  obtain ⟨l, hl, rfl⟩ := List.mem_map.1 hp
  have := cutB_piece c _ l hl
  have e : s.data.toList.length = s.size := by simp
  have e2 : (⟨l.toArray⟩ : ByteArray).size = l.length := by simp [ByteArray.size]
  omega
/-- the instruction that a part tells -/
def insOf (p : ByteArray) : Ins3 :=
  (nameOp ((cutW 32 p).getD 0 ⟨#[]⟩), (if 1 < (cutW 32 p).length then tnum ((cutW 32 p).getD 1 ⟨#[]⟩) else 0), (if 2 < (cutW 32 p).length then tnum ((cutW 32 p).getD 2 ⟨#[]⟩) else 0))
def partOk (p : ByteArray) : Bool := insOk (insOf p) && decide (txt (insOf p) = p)
/-- a body's text, read -/
def bodyP (s : ByteArray) : List Ins3 × Bool :=
  if s = ⟨#[]⟩ then ([], true) else if (cutW 59 s).all partOk then ((cutW 59 s).map insOf, true) else ([], false)
theorem ba_eq {a b : ByteArray} (h : a.data.toList = b.data.toList) : a = b := by
  apply ByteArray.ext
  exact Array.toList_inj.1 h
theorem map_data_inj {xs ys : List ByteArray} (h : xs.map (·.data.toList) = ys.map (·.data.toList)) : xs = ys := by
  induction xs generalizing ys with
  | nil => cases ys with
    | nil => rfl
    | cons y ys => simp at h
  | cons x xs ih => cases ys with
    | nil => simp at h
    | cons y ys =>
      simp only [List.map_cons, List.cons.injEq] at h
      rw [ba_eq h.1, ih h.2]
theorem J_cut (s : ByteArray) : J (cutW 59 s) = s := by
  apply ba_eq
  unfold J
  rw [cutW_data]
  exact join_cut 59 _
theorem J_inj {xs : List ByteArray} {s : ByteArray} (hne : xs ≠ []) (hx : ∀ x ∈ xs, (59 : UInt8) ∉ x.data.toList) (h : J xs = s) : xs = cutW 59 s := by
  apply map_data_inj
  rw [cutW_data, ← h]
  cases xs with
  | nil => exact absurd rfl hne
  | cons x xs =>
    unfold J
    show _ = cutB 59 (Lib.join ((x :: xs).map (·.data.toList)) [59])
    rw [List.map_cons, cut_join]
    intro p hp
    rw [← List.map_cons (f := fun y : ByteArray => y.data.toList)] at hp
    obtain ⟨y, hy, rfl⟩ := List.mem_map.1 hp
    exact hx y hy
theorem all_map {ps : List ByteArray} (h : ps.all partOk = true) : Bb.allOk (ps.map insOf) = true ∧ texts (ps.map insOf) = ps := by
  constructor
  · unfold Bb.allOk
    rw [List.all_map, List.all_eq_true]
    intro p hp
    have := List.all_eq_true.1 h p hp
    unfold partOk at this
    rw [Bool.and_eq_true] at this
    exact this.1
  · unfold texts
    rw [List.map_map]
    conv => rhs; rw [← List.map_id ps]
    refine List.map_congr_left fun p hp => ?_
    have := List.all_eq_true.1 h p hp
    unfold partOk at this
    rw [Bool.and_eq_true] at this
    exact of_decide_eq_true this.2
theorem map_all {ps : List ByteArray} (h : Bb.allOk (ps.map insOf) = true) (h' : texts (ps.map insOf) = ps) : ps.all partOk = true := by
  rw [List.all_eq_true]
  intro p hp
  unfold partOk
  rw [Bool.and_eq_true]
  constructor
  · unfold Bb.allOk at h
    rw [List.all_map, List.all_eq_true] at h
    exact h p hp
  · apply decide_eq_true
    unfold texts at h'
    rw [List.map_map] at h'
    have h2 : ps.map (txt ∘ insOf) = ps.map id := by rw [List.map_id]; exact h'
    exact List.map_inj_left.1 h2 p hp
/-- the reference's test is the program's -/
theorem body_test (s : ByteArray) (hs : s ≠ ⟨#[]⟩) : decide (bodyT ((cutW 59 s).map insOf) = s) = (cutW 59 s).all partOk := by
  cases hb : (cutW 59 s).all partOk with
  | true =>
    obtain ⟨h1, h2⟩ := all_map hb
    apply decide_eq_true
    unfold bodyT
    rw [h1, h2]
    exact J_cut s
  | false =>
    apply decide_eq_false
    intro h
    unfold bodyT at h
    cases h1 : Bb.allOk ((cutW 59 s).map insOf) with
    | false =>
      rw [h1] at h
      exact hs h.symm
    | true =>
      rw [h1] at h
      have h2 := J_inj (by simpa [texts] using cutW_ne 59 s) (by
        intro x hx
        obtain ⟨i, _, rfl⟩ := List.mem_map.1 hx
        exact txt_no i) h
      rw [map_all h1 h2] at hb
      cases hb
end Go.Proofs.YtiinkfejdnfonaaDoor.Cut
