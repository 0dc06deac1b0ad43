/- OpName and NameOp, in the program and in the reference: a contract each. -/
import Derived.Test.YtiinkfejdnfonaaDoorOpS
namespace Go.Proofs.YtiinkfejdnfonaaDoor.Ops
open Go.RowKit Go.Proofs.YtiinkfejdnfonaaDoor.Num Go.Proofs.YtiinkfejdnfonaaDoor.NumC Go.Proofs.YtiinkfejdnfonaaDoor.Mem
set_option linter.unusedVariables false

theorem names52 : ∀ k : Fin 52, allNames.getD k.1 ⟨#[]⟩ = opName (allOps.getD k.1 0) := by decide +kernel
theorem ops52 : ∀ k : Fin 52, nameOp (allNames.getD k.1 ⟨#[]⟩) = allOps.getD k.1 0 := by decide +kernel
theorem ops_bd : ∀ x ∈ allOps, 0 ≤ x ∧ x ≤ 120 := by decide +kernel
theorem len52 : allOps.length = 52 := rfl
theorem len52n : allNames.length = 52 := rfl
theorem name_at {op : Int} {k : Nat} (h : allOps[k]? = some op) : allNames[k]? = some (opName op) := by
  obtain ⟨hk, hv⟩ := List.getElem?_eq_some_iff.1 h
  have h1 := names52 ⟨k, hk⟩
  have hn : k < allNames.length := hk
  simp only [List.getD, List.getElem?_eq_getElem hk, hv, List.getElem?_eq_getElem hn, Option.getD_some] at h1
  rw [List.getElem?_eq_getElem hn, h1]
theorem op_at {s : ByteArray} {k : Nat} (h : allNames[k]? = some s) : allOps[k]? = some (nameOp s) := by
  obtain ⟨hk, hv⟩ := List.getElem?_eq_some_iff.1 h
  have h1 := ops52 ⟨k, hk⟩
  have hn : k < allOps.length := hk
  simp only [List.getD, List.getElem?_eq_getElem hk, hv, List.getElem?_eq_getElem hn, Option.getD_some] at h1
  rw [List.getElem?_eq_getElem hn, h1]
theorem findS_none {s : ByteArray} : ∀ (l : List Int) (m : List ByteArray), s ∉ m → (l.zip m).find? (fun p => decide (p.2 = s)) = none
  | [], _, _ => by simp
  | _ :: _, [], _ => by simp
  | a :: l, b :: m, h => by
    simp only [List.mem_cons, not_or] at h
    simp only [List.zip_cons_cons, List.find?_cons]
    have : decide (b = s) = false := decide_eq_false (fun e => h.1 e.symm)
    rw [this]
    exact findS_none l m h.2
theorem op_none {s : ByteArray} (h : s ∉ allNames) : nameOp s = -1 := by
  unfold nameOp
  rw [findS_none _ _ h]
  rfl
theorem empty_no : (⟨#[]⟩ : ByteArray) ∉ allNames := by
  have h : ∀ b ∈ allNames, b.size ≠ 0 := by decide +kernel
  exact fun hm => h _ hm rfl
theorem opName_mem {op : Int} (h : opName op ≠ ⟨#[]⟩) : op ∈ allOps := by
  by_cases hm : op ∈ allOps
  · exact hm
  · exact absurd (name_none hm) h
/-- an operation's name tells the operation -/
theorem nameOp_opName {op : Int} (h : opName op ≠ ⟨#[]⟩) : nameOp (opName op) = op := by
  obtain ⟨k, hk, he⟩ := List.getElem_of_mem (opName_mem h)
  have h1 : allOps[k]? = some op := by rw [List.getElem?_eq_getElem hk, he]
  have h2 := op_at (name_at h1)
  rw [h1] at h2
  exact (Option.some.inj h2).symm
theorem mem_opName {s : ByteArray} (h : s ∈ allNames) : ∃ k : Nat, k ≤ 120 ∧ opName k = s ∧ nameOp s = k := by
  obtain ⟨j, hj, he⟩ := List.getElem_of_mem h
  have h1 : allNames[j]? = some s := by rw [List.getElem?_eq_getElem hj, he]
  have h2 := op_at h1
  have h3 := name_at h2
  rw [h1] at h3
  have hb := ops_bd _ (List.mem_of_getElem? h2)
  refine ⟨(nameOp s).toNat, by omega, ?_, by omega⟩
  have e : (((nameOp s).toNat : Nat) : Int) = nameOp s := by omega
  rw [e]
  exact (Option.some.inj h3).symm
/-- the first place of a text in a list, told by what is known of it -/
def FirstS (l : List ByteArray) (v : ByteArray) (r : Int) : Prop := (r = -1 ∧ v ∉ l) ∨ (∃ k : Nat, r = k ∧ l[k]? = some v)
theorem index_str (A : Option Addr) (n c : Nat) (l : List ByteArray) (v : ByteArray) (w : World) (hr : Rd w w.heap.size 1 A n (strC l)) (hn : n ≤ 1048576) :
    Calls Tryd.prog 81 #[.slice A n c, .string v] w fun e w' => ∃ r, e = .returned (.int .i64 r) ∧ FirstS l v r ∧ Below w.heap.size w w' := by
  have hn' : (n : Int) ≤ 1048576 := by omega
  have hl : l.length = n := by have := hr.1; simp only [strC, List.length_map] at this; omega
  have HR := hide hr
  have HL := hide hl
  clear hr hn hl
  go_enter Tryd.func81, Tryd.ntmps81
  go_wp2_with fail
  go_loopw [8] (fun i wr => ∃ k : Nat, k ≤ n ∧ i = .int .i64 k ∧ Hid (∀ j, j < k → l[j]? ≠ some v) ∧ ∃ q, wr = w.drewN q) (fun i _ => n - (intOf i).toNat)
  case atStart => exact ⟨0, Nat.zero_le _, rfl, hide (fun j hj => by omega), 0, rfl⟩
  case round =>
    obtain ⟨k, hk, rfl, HE, q, rfl⟩ := hrel
    by_cases hlt : k < n
    · obtain ⟨b, off, rfl, x, hx, h1, _⟩ := get_str (wr := w) HR.out k hlt (fun _ _ => rfl)
      have hi0 : (k : Int) < (n : Int) := by omega
      have hi1 : (0 : Int) ≤ (k : Int) := by omega
      have HXk := hide hx
      clear hx
      by_cases hxy : v = x
      · subst hxy
        have hvv : (v.toList == v.toList) = true := by simp
        go_wp2_with fail
        go_ret
        exact ⟨k, rfl, .inr ⟨k, rfl, HXk.out⟩, bel_drewN (Below.refl _ _) _⟩
      · have hvx : (v.toList == x.toList) = false := by
          simp only [beq_eq_false_iff_ne, ne_eq, ByteArray.toList_eq]
          intro e
          apply hxy
          have : v.data = x.data := Array.toList_inj.1 e
          exact ByteArray.ext this
        go_wp2_with fail
        go_roundw
        case rel =>
          refine ⟨k + 1, by omega, by go_num, hide (fun j hj => ?_), _, rfl⟩
          by_cases hjk : j < k
          · exact HE.out j hjk
          · obtain rfl : j = k := by omega
            rw [HXk.out]
            exact fun e => hxy (Option.some.inj e).symm
        case measure => simp [intOf]; omega
    · obtain rfl : k = n := by omega
      go_wp2_with fail
      go_ret
      refine ⟨-1, rfl, .inl ⟨rfl, fun h => ?_⟩, bel_drewN (Below.refl _ _) _⟩
      obtain ⟨j, hj, he⟩ := List.getElem_of_mem h
      exact HE.out j (by have := HL.out; omega) (by rw [List.getElem?_eq_getElem hj, he])
theorem iOpName (op : Int) (w : World) (hT : Tab w) : Calls Tryd.prog 73 #[.int .i64 op] w fun e w' => e = .returned (.string (opName op)) ∧ Below w.heap.size w w' := by
  have HT := hide hT
  clear hT
  obtain ⟨S, hS⟩ : ∃ S, opName op = S := ⟨_, rfl⟩
  rw [hS]
  have HS := hide hS
  clear hS
  go_enter Tryd.func73, Tryd.ntmps73
  go_wp2_with fail
  refine (opCodes_c w).mono ?_
  rintro e w1 ⟨A1, c1, rfl, ho1, hb1⟩
  have R1 := hide ho1.rd
  have B1 := hide hb1
  clear ho1 hb1
  go_wp2_with fail
  refine (index_int A1 52 c1 allOps op w1 R1.out (by omega)).mono ?_
  rintro e w2 ⟨r, rfl, hf, hb2⟩
  have B2 := hide (bel_step B1.out hb2 B1.out.size)
  have HT2 := hide (tabS_bel HT.out B2.out)
  clear hb2
  rcases hf with ⟨rfl, hn⟩ | ⟨k, rfl, hk, _⟩
  · have hSn : S = ⟨#[]⟩ := by rw [← HS.out]; exact name_none hn
    subst hSn
    clear hn
    go_wp2_with fail
    go_ret
    exact ⟨rfl, B2.out⟩
  · have HK := hide hk
    have hk52 : (k : Int) < 52 := by have := (List.getElem?_eq_some_iff.1 hk).1; rw [len52] at this; omega
    clear hk
    go_wp2_with fail
    refine (opNames_c w2 HT2.out).mono ?_
    rintro e w3 ⟨A3, c3, rfl, ho3, hb3⟩
    have R3 := hide ho3.rd
    have B3 := hide (bel_step B2.out hb3 B2.out.size)
    clear ho3 hb3
    obtain ⟨b, off, rfl, x, hx, hc, _⟩ := get_str (wr := w3) R3.out k (by omega) (fun _ _ => rfl)
    have hxS : x = S := by
      have := name_at HK.out
      rw [hx] at this
      rw [← HS.out]
      exact Option.some.inj this
    subst hxS
    clear hx
    go_wp2_with fail
    go_ret
    exact ⟨rfl, B3.out⟩
theorem iNameOp (s : ByteArray) (w : World) (hT : Tab w) : Calls Tryd.prog 37 #[.string s] w fun e w' => e = .returned (.int .i64 (nameOp s)) ∧ Below w.heap.size w w' := by
  have HT := hide hT
  clear hT
  obtain ⟨R, hR⟩ : ∃ R, nameOp s = R := ⟨_, rfl⟩
  rw [hR]
  have HR := hide hR
  clear hR
  go_enter Tryd.func37, Tryd.ntmps37
  go_wp2_with fail
  refine (opNames_c w HT.out).mono ?_
  rintro e w1 ⟨A1, c1, rfl, ho1, hb1⟩
  have R1 := hide ho1.rd
  have B1 := hide hb1
  clear ho1 hb1
  go_wp2_with fail
  refine (index_str A1 52 c1 allNames s w1 R1.out (by omega)).mono ?_
  rintro e w2 ⟨r, rfl, hf, hb2⟩
  have B2 := hide (bel_step B1.out hb2 B1.out.size)
  clear hb2
  rcases hf with ⟨rfl, hn⟩ | ⟨k, rfl, hk⟩
  · have hRn : R = -1 := by rw [← HR.out]; exact op_none hn
    subst hRn
    clear hn
    go_wp2_with fail
    go_ret
    exact ⟨rfl, B2.out⟩
  · have HK := hide hk
    have hk52 : (k : Int) < 52 := by have := (List.getElem?_eq_some_iff.1 hk).1; rw [len52n] at this; omega
    clear hk
    go_wp2_with fail
    refine (opCodes_c w2).mono ?_
    rintro e w3 ⟨A3, c3, rfl, ho3, hb3⟩
    have R3 := hide ho3.rd
    have B3 := hide (bel_step B2.out hb3 B2.out.size)
    clear ho3 hb3
    obtain ⟨b, off, rfl, x, hx, hc, _⟩ := get_in64 (wr := w3) R3.out k (by omega) (fun _ _ => rfl)
    have hxR : x = R := by
      have := op_at HK.out
      rw [hx] at this
      rw [← HR.out]
      exact Option.some.inj this
    subst hxR
    clear hx
    go_wp2_with fail
    go_ret
    exact ⟨rfl, B3.out⟩
theorem sNameOp (s : ByteArray) (w : World) : Calls Tryd.prog 34 #[.string s] w fun e w' => e = .returned (.int .i64 (nameOp s)) ∧ Below w.heap.size w w' := by
  by_cases hs : s = ⟨#[]⟩
  · subst hs
    rw [op_none empty_no]
    go_enter Tryd.func34, Tryd.ntmps34
    go_wp2_with fail
    go_loop [3] (fun i => ∃ k : Nat, k ≤ 121 ∧ i = .int .i64 k) (fun i => 121 - (intOf i).toNat)
    case atStart => exact ⟨0, Nat.zero_le _, rfl⟩
    case round =>
      obtain ⟨k, hk, rfl⟩ := hrel
      by_cases hlt : k < 121
      · have hk' : (k : Int) ≤ 120 := by omega
        go_wp2_with fail
        go_round
        case rel => exact ⟨k + 1, by omega, by go_num⟩
        case measure => simp [intOf]; omega
      · obtain rfl : k = 121 := by omega
        go_wp2_with fail
        go_ret
        exact ⟨rfl, Below.refl _ _⟩
  · have hse : s.toList.isEmpty = false := by
      rw [ByteArray.toList_eq]
      simp only [List.isEmpty_eq_false_iff, ne_eq]
      intro e
      exact hs (ByteArray.ext (Array.toList_inj.1 e))
    obtain ⟨R, hR⟩ : ∃ R, nameOp s = R := ⟨_, rfl⟩
    rw [hR]
    have HR := hide hR
    clear hR
    go_enter Tryd.func34, Tryd.ntmps34
    go_wp2_with fail
    go_loopw [3] (fun i wr => ∃ k : Nat, k ≤ 121 ∧ i = .int .i64 k ∧ Hid (∀ j : Nat, j < k → opName j ≠ s) ∧ Hid (Below w.heap.size w wr)) (fun i _ => 121 - (intOf i).toNat)
    case atStart => exact ⟨0, Nat.zero_le _, rfl, hide (fun j hj => by omega), hide (Below.refl _ _)⟩
    case round =>
      obtain ⟨k, hk, rfl, HN, HB⟩ := hrel
      by_cases hlt : k < 121
      · have hk' : (k : Int) ≤ 120 := by omega
        obtain ⟨X, hX⟩ : ∃ X, opName k = X := ⟨_, rfl⟩
        have hsc := sOpName k
        rw [hX] at hsc
        have SC := hide hsc
        clear hsc
        by_cases hxs : X = s
        · have hRk : R = k := by
            rw [← HR.out, ← hxs, ← hX]
            exact nameOp_opName (by rw [hX, hxs]; exact hs)
          subst hxs
          subst hRk
          clear hX
          have hvv : (X.toList == X.toList) = true := by simp
          go_wp2_with fail
          refine (SC.out _).mono ?_
          rintro e w1 ⟨rfl, hb1⟩
          have B1 := hide (bel_step HB.out hb1 HB.out.size)
          clear hb1
          go_wp2_with fail
          go_ret
          exact ⟨rfl, B1.out⟩
        · have hvx : (X.toList == s.toList) = false := by
            simp only [beq_eq_false_iff_ne, ne_eq, ByteArray.toList_eq]
            intro e
            exact hxs (ByteArray.ext (Array.toList_inj.1 e))
          have HX := hide hX
          clear hX
          go_wp2_with fail
          refine (SC.out _).mono ?_
          rintro e w1 ⟨rfl, hb1⟩
          have B1 := hide (bel_step HB.out hb1 HB.out.size)
          clear hb1
          go_wp2_with fail
          go_roundw
          case rel =>
            refine ⟨k + 1, by omega, by go_num, hide (fun j hj => ?_), B1⟩
            by_cases hjk : j < k
            · exact HN.out j hjk
            · obtain rfl : j = k := by omega
              rw [HX.out]
              exact hxs
          case measure => simp [intOf]; omega
      · obtain rfl : k = 121 := by omega
        have hRn : R = -1 := by
          rw [← HR.out]
          refine op_none (fun hm => ?_)
          obtain ⟨j, hj, he, _⟩ := mem_opName hm
          exact HN.out j (by omega) he
        subst hRn
        go_wp2_with fail
        go_ret
        exact ⟨rfl, HB.out⟩
end Go.Proofs.YtiinkfejdnfonaaDoor.Ops
