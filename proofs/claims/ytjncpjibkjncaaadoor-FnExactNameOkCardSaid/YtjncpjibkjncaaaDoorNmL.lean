/- The law on NameOk, walked; the reference's side of it. -/
import Derived.Test.YtjncpjibkjncaaaDoorNmC
import Derived.Test.YtjncpjibkjncaaaDoorOpL
namespace Go.Proofs.YtjncpjibkjncaaaDoor.Nm
open Go.RowKit Go.Proofs.YtjncpjibkjncaaaDoor.Num Go.Proofs.YtjncpjibkjncaaaDoor.NumC Go.Proofs.YtjncpjibkjncaaaDoor.Mem Go.Proofs.YtjncpjibkjncaaaDoor.Ops Go.Proofs.YtjncpjibkjncaaaDoor.Utf
set_option linter.unusedVariables false
set_option maxRecDepth 100000
theorem sWord (s : ByteArray) (w : World) (hm : (s.size : Int) ≤ 1048576) : Calls Tryd.prog 43 #[.string s] w fun e w' => e = .returned (.bool (word (byt s))) ∧ w = w' := by
  obtain ⟨R, hR⟩ : ∃ R, word (byt s) = R := ⟨_, rfl⟩
  rw [hR]
  have HR := hide hR
  clear hR
  go_enter Tryd.func43, Tryd.ntmps43
  go_wp2_with fail
  go_loop [3] (fun i' => ∃ i : Nat, i ≤ s.size ∧ i' = .int .i64 i ∧ Hid (∀ j : Nat, j < i → ∀ y, (byt s)[j]? = some y → part y = true)) (fun i' => s.size - (intOf i').toNat)
  case atStart => exact ⟨0, Nat.zero_le _, rfl, hide (fun j hj => by omega)⟩
  case round =>
    obtain ⟨i, hi, rfl, HA⟩ := hrel
    by_cases hlt : i < s.size
    · have hi' : (i : Int) < s.size := by omega
      have hi0 : (0 : Int) ≤ i := by omega
      obtain ⟨y, hy⟩ : ∃ y : Int, ((s[i]'hlt).toNat : Int) = y := ⟨_, rfl⟩
      have hyat := byt_at s i hlt
      rw [hy] at hyat
      have HY := hide hyat
      clear hyat
      cases hp : part y
      · have HC := hide (show ∀ w, Calls Tryd.prog 54 #[.int .u8 y] w fun e w' => e = .returned (.bool false) ∧ w = w' from fun w => hp ▸ spart_c y w)
        have hR0 : R = false := by
          rw [← HR.out]
          have h1 := all_not HY.out hp
          cases hb : byt s with
          | nil => rfl
          | cons x r =>
            rw [hb] at h1
            simp only [word, h1, Bool.and_false]
        subst hR0
        clear hp
        go_wp2_with fail
        refine (HC.out _).mono ?_
        rintro e w' ⟨rfl, rfl⟩
        go_wp2_with fail
        go_ret
        exact ⟨rfl, rfl⟩
      · have HC := hide (show ∀ w, Calls Tryd.prog 54 #[.int .u8 y] w fun e w' => e = .returned (.bool true) ∧ w = w' from fun w => hp ▸ spart_c y w)
        have HP := hide hp
        clear hp
        go_wp2_with fail
        refine (HC.out _).mono ?_
        rintro e w' ⟨rfl, rfl⟩
        go_wp2_with fail
        go_round
        case rel =>
          refine ⟨i + 1, by omega, by go_num, hide (fun j hj z hz => ?_)⟩
          by_cases hji : j < i
          · exact HA.out j hji z hz
          · obtain rfl : j = i := by omega
            rw [HY.out] at hz
            rw [← Option.some.inj hz]
            exact HP.out
        case measure => simp [intOf]; omega
    · obtain rfl : i = s.size := by omega
      have ha := all_of HA.out
      cases hb : byt s with
      | nil =>
        have hRf : R = false := by rw [← HR.out, hb]; rfl
        have h0 : s = ⟨#[]⟩ := by
          have := byt_len s
          rw [hb] at this
          exact ByteArray.ext (Array.eq_empty_of_size_eq_zero this.symm)
        subst h0
        subst hRf
        clear ha hb HR HA
        go_wp2_with fail
        go_ret
        exact ⟨rfl, rfl⟩
      | cons x r =>
        have h0 : 0 < s.size := by have := byt_len s; rw [hb] at this; simp at this; omega
        have hs0 : (0 : Int) < s.size := by omega
        have hse : s.toList.isEmpty = false := by
          rw [ByteArray.toList_eq]
          simp only [List.isEmpty_eq_false_iff, ne_eq]
          intro e
          have : byt s = [] := by unfold byt; rw [e]; rfl
          rw [hb] at this
          cases this
        have hx : ((s[0]'h0).toNat : Int) = x := by
          have := byt_at s 0 h0
          rw [hb] at this
          simpa using this.symm
        have hRs : small x = R := by
          rw [← HR.out, hb]
          rw [hb] at ha
          simp only [word, ha, Bool.and_true]
        have HC := hide (fun w => ssmall_c x w)
        rw [hRs] at HC
        clear hb ha HR HA hRs
        go_wp2_with fail
        refine (HC.out _).mono ?_
        rintro e w' ⟨rfl, rfl⟩
        go_wp2_with fail
        go_ret
        exact ⟨rfl, rfl⟩
theorem words_c (w : World) : Calls Tryd.prog 45 #[] w (Fresh 9 1 7 (strC words7) w) := by
  go_enter Tryd.func45, Tryd.ntmps45
  go_wp2_with fail
  go_ret
  exact ⟨_, _, rfl, World.ownsRow_lit w _ 7 (Nat.le_refl _) (by decide) rfl, (Below.refl _ _).alloc (Nat.le_refl _) _⟩
theorem sHas (A : Option Addr) (n c : Nat) (l : List ByteArray) (v : ByteArray) (w : World) (hr : Rd w w.heap.size 1 A n (strC l)) (hn : n ≤ 1048576) :
    Calls Tryd.prog 44 #[.slice A n c, .string v] w fun e w' => e = .returned (.bool (has l v)) ∧ Below w.heap.size w w' := by
  have hn' : (n : Int) ≤ 1048576 := by omega
  have hl : l.length = n := by have := hr.1; simp only [strC, List.length_map] at this; omega
  have HR := hide hr
  have HL := hide hl
  clear hr hn hl
  obtain ⟨R, hR⟩ : ∃ R, has l v = R := ⟨_, rfl⟩
  rw [hR]
  have HV := hide hR
  clear hR
  go_enter Tryd.func44, Tryd.ntmps44
  go_wp2_with fail
  go_loop [9] (fun i => ∃ k : Nat, k ≤ n ∧ i = .int .i64 k ∧ Hid (∀ j, j < k → l[j]? ≠ some v)) (fun i => n - (intOf i).toNat)
  case atStart => exact ⟨0, Nat.zero_le _, rfl, hide (fun j hj => by omega)⟩
  case round =>
    obtain ⟨k, hk, rfl, HE⟩ := hrel
    by_cases hlt : k < n
    · obtain ⟨b, off, rfl, x, hx, h1, _⟩ := get_str (wr := w) HR.out k hlt (fun _ _ => rfl)
      have hi0 : (k : Int) < (n : Int) := by omega
      have hi1 : (0 : Int) ≤ (k : Int) := by omega
      have HXk := hide hx
      clear hx
      by_cases hxy : x = v
      · subst hxy
        have hRt : R = true := by rw [← HV.out]; exact has_iff.2 (List.mem_of_getElem? HXk.out)
        subst hRt
        have hvv : (x.toList == x.toList) = true := by simp
        go_wp2_with fail
        go_ret
        exact ⟨rfl, Below.refl _ _⟩
      · have hvx : (x.toList == v.toList) = false := by
          simp only [beq_eq_false_iff_ne, ne_eq, ByteArray.toList_eq]
          intro e
          exact hxy (ByteArray.ext (Array.toList_inj.1 e))
        go_wp2_with fail
        go_round
        case rel =>
          refine ⟨k + 1, by omega, by go_num, hide (fun j hj => ?_)⟩
          by_cases hjk : j < k
          · exact HE.out j hjk
          · obtain rfl : j = k := by omega
            rw [HXk.out]
            exact fun e => hxy (Option.some.inj e)
        case measure => simp [intOf]; omega
    · obtain rfl : k = n := by omega
      have hRf : R = false := by
        rw [← HV.out, has_no]
        intro h
        obtain ⟨j, hj, he⟩ := List.getElem_of_mem h
        exact HE.out j (by have := HL.out; omega) (by rw [List.getElem?_eq_getElem hj, he])
      subst hRf
      go_wp2_with fail
      go_ret
      exact ⟨rfl, Below.refl _ _⟩
theorem sNameOk (s : ByteArray) (w : World) (hm : (s.size : Int) ≤ 1048576) : Calls Tryd.prog 23 #[.string s] w fun e w' => e = .returned (.bool (nmOk s)) ∧ Below w.heap.size w w' := by
  obtain ⟨R, hR⟩ : ∃ R, nmOk s = R := ⟨_, rfl⟩
  rw [hR]
  unfold nmOk at hR
  have HW := hide (fun w => sWord s w hm)
  cases hw : word (byt s)
  · rw [hw] at HW hR
    have hR0 : R = false := by rw [← hR]; rfl
    subst hR0
    clear hR hw
    go_enter Tryd.func23, Tryd.ntmps23
    go_wp2_with fail
    refine (HW.out _).mono ?_
    rintro e w' ⟨rfl, rfl⟩
    go_wp2_with fail
    go_ret
    exact ⟨rfl, Below.refl _ _⟩
  · rw [hw] at HW hR
    by_cases h12 : (s.size : Int) ≤ 12
    · have hd : decide (s.size ≤ 12) = true := decide_eq_true (by omega)
      rw [hd] at hR
      have HR := hide hR
      clear hR hw hd
      go_enter Tryd.func23, Tryd.ntmps23
      go_wp2_with fail
      refine (HW.out _).mono ?_
      rintro e w' ⟨rfl, rfl⟩
      go_wp2_with fail
      refine (words_c _).mono ?_
      rintro e w1 ⟨A1, c1, rfl, ho, hb⟩
      have HO := hide ho.rd
      have B1 := hide hb
      clear ho hb
      go_wp2_with fail
      refine (sHas A1 7 c1 words7 s w1 HO.out (by omega)).mono ?_
      rintro e w2 ⟨rfl, hb⟩
      have B2 := hide (bel_step B1.out hb B1.out.size)
      clear hb
      go_wp2_with fail
      go_ret
      refine ⟨?_, B2.out⟩
      rw [← HR.out]
      rfl
    · have hd : decide (s.size ≤ 12) = false := decide_eq_false (by omega)
      have h12' : 12 < (s.size : Int) := by omega
      rw [hd] at hR
      have hR0 : R = false := by rw [← hR]; rfl
      subst hR0
      clear hR hw hd h12
      go_enter Tryd.func23, Tryd.ntmps23
      go_wp2_with fail
      refine (HW.out _).mono ?_
      rintro e w' ⟨rfl, rfl⟩
      go_wp2_with fail
      go_ret
      exact ⟨rfl, Below.refl _ _⟩
theorem iNameOk (s : ByteArray) (w : World) (hm : (s.size : Int) ≤ 1048576) (hT : Tab w) : Calls Tryd.prog 24 #[.string s] w fun e w' => e = .returned (.bool (nmOk s)) ∧ Below w.heap.size w w' := by
  have HN := hide (iisName s w hm hT)
  have hk : nmOk s = ((word (byt s) && !has words7 s) && decide (s.size ≤ 12)) := by
    unfold nmOk
    cases word (byt s) <;> cases has words7 s <;> cases decide (s.size ≤ 12) <;> rfl
  rw [hk]
  obtain ⟨B, hB⟩ : ∃ B, (word (byt s) && !has words7 s) = B := ⟨_, rfl⟩
  rw [hB] at HN ⊢
  clear hk hB hT
  have h0 : (0 : Int) ≤ s.size := by omega
  by_cases h12 : (s.size : Int) ≤ 12
  · have hd : decide (s.size ≤ 12) = true := decide_eq_true (by omega)
    rw [hd]
    clear hd
    cases B
    all_goals
      go_enter Tryd.func24, Tryd.ntmps24
      go_wp2_with fail
      refine HN.out.mono ?_
      rintro e w' ⟨rfl, hb⟩
      go_wp2_with fail
      go_ret
      exact ⟨rfl, hb⟩
  · have hd : decide (s.size ≤ 12) = false := decide_eq_false (by omega)
    have h12' : 12 < (s.size : Int) := by omega
    have hd2 : decide ((s.size : Int) ≤ 12) = false := decide_eq_false h12
    rw [hd]
    clear hd h12
    cases B
    all_goals
      go_enter Tryd.func24, Tryd.ntmps24
      go_wp2_with fail
      refine HN.out.mono ?_
      rintro e w' ⟨rfl, hb⟩
      go_wp2_with fail
      go_ret
      exact ⟨rfl, hb⟩
end Go.Proofs.YtjncpjibkjncaaaDoor.Nm
namespace Go.Proofs.YtjncpjibkjncaaaDoor
open Go.RowKit Go.Proofs.YtjncpjibkjncaaaDoor.Num Go.Proofs.YtjncpjibkjncaaaDoor.NumC Go.Proofs.YtjncpjibkjncaaaDoor.Mem Go.Proofs.YtjncpjibkjncaaaDoor.Ops
theorem fnExactNameOk_walk (a0 : ByteArray) (w : World) (w0 : a0.size ≤ maxLen) (hL : laidMetH Tryd.prog Rows.fnExactNameOkRow.laid w) : Calls Tryd.prog 9 #[.string a0] w fun e w' => e = .returned (.bool true) ∧ Below w.heap.size w w' := by
  have HT := hide (space_tab (rest := []) (laidMet.tail hL))
  have hm : (a0.size : Int) ≤ 9223372036854775807 := by unfold maxLen at w0; omega
  clear w0 hL
  by_cases hn : 1048576 < (a0.size : Int)
  · go_enter Tryd.func9, Tryd.ntmps9
    go_wp2_with fail
    go_ret
    exact ⟨rfl, Below.refl _ _⟩
  · have hn' : (a0.size : Int) ≤ 1048576 := by omega
    have cS := hide (fun w => Nm.sNameOk a0 w hn')
    have cI := hide (fun w h => Nm.iNameOk a0 w hn' h)
    obtain ⟨R, hR⟩ : ∃ R, Nm.nmOk a0 = R := ⟨_, rfl⟩
    rw [hR] at cS cI
    clear hn hR
    go_enter Tryd.func9, Tryd.ntmps9
    go_wp2_with fail
    refine (cS.out _).mono ?_
    rintro e w1 ⟨rfl, hb⟩
    have HT1 := hide (tabS_bel HT.out hb)
    have B1 := hide hb
    clear hb
    go_wp2_with fail
    refine (cI.out _ HT1.out).mono ?_
    rintro e w2 ⟨rfl, hb2⟩
    have B2 := hide (bel_step B1.out hb2 B1.out.size)
    clear hb2
    go_wp2_with fail
    go_ret
    exact ⟨rfl, B2.out⟩
end Go.Proofs.YtjncpjibkjncaaaDoor
