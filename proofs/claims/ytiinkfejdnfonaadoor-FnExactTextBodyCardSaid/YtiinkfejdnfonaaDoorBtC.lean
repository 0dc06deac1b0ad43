/- The texts of instructions, in the program and in the reference: a contract each. -/
import Derived.Test.YtiinkfejdnfonaaDoorBbL
import Derived.Test.YtiinkfejdnfonaaDoorOpP
import Derived.Test.YtiinkfejdnfonaaDoorTnC
import Derived.Lib.Join
namespace Go.Proofs.YtiinkfejdnfonaaDoor.Bt
open Go.RowKit Go.Proofs.YtiinkfejdnfonaaDoor.Num Go.Proofs.YtiinkfejdnfonaaDoor.NumC Go.Proofs.YtiinkfejdnfonaaDoor.Mem Go.Proofs.YtiinkfejdnfonaaDoor.Shape Go.Proofs.YtiinkfejdnfonaaDoor.Body Go.Proofs.YtiinkfejdnfonaaDoor.Ops Go.Proofs.YtiinkfejdnfonaaDoor.Dig Go.Proofs.YtiinkfejdnfonaaDoor.Tn
set_option linter.unusedVariables false

def sp : ByteArray := ⟨#[32]⟩
def semi : ByteArray := ⟨#[59]⟩
/-- the text of an instruction -/
def txtK (k : Int) (o a b : ByteArray) : ByteArray := if k = 0 then o else if k = 3 then (o ++ (sp ++ a)) ++ (sp ++ b) else o ++ (sp ++ a)
def txt (i : Ins3) : ByteArray := txtK (kind i.1) (opName i.1) (nt (wrap32 i.2.1)) (nt (wrap32 i.2.2))
/-- texts, joined -/
def J (xs : List ByteArray) : ByteArray := ⟨(Lib.join (xs.map (·.data.toList)) semi.data.toList).toArray⟩
theorem app_assoc (a b c : ByteArray) : (a ++ b) ++ c = a ++ (b ++ c) := by apply ByteArray.ext; simp
theorem J_nil : J [] = ⟨#[]⟩ := rfl
theorem J_one (x : ByteArray) : J [x] = x := by
  unfold J
  rw [List.map_cons, List.map_nil, Lib.join_one]
theorem J_snoc (xs : List ByteArray) (x : ByteArray) (h : xs ≠ []) : J (xs ++ [x]) = (J xs ++ semi) ++ x := by
  cases xs with
  | nil => exact absurd rfl h
  | cons y r =>
    unfold J
    rw [List.cons_append, List.map_cons, List.map_append, List.map_cons, List.map_cons, List.map_nil, Lib.join_cons, Lib.join_cons]
    apply ByteArray.ext
    simp [Lib.joinTail]
theorem name_size (op : Int) : (opName op).size ≤ 20 := by
  by_cases h : op ∈ allOps
  · obtain ⟨k, hk, rfl⟩ := List.getElem_of_mem h
    have h1 : allOps[k]? = some (allOps[k]) := List.getElem?_eq_getElem hk
    exact (by decide +kernel : ∀ c ∈ allNames, c.size ≤ 20) _ (List.mem_of_getElem? (name_at h1))
  · rw [name_none h]; decide
theorem nt_le (a : Int) : (nt (wrap32 a)).size ≤ 11 := (nt_size (wrap32 a) (by have := w32_bd a; omega) (by have := w32_bd a; omega)).2
theorem txt_size (i : Ins3) : (txt i).size ≤ 50 := by
  have h1 := name_size i.1
  have h2 := nt_le i.2.1
  have h3 := nt_le i.2.2
  have h4 : sp.size = 1 := rfl
  unfold txt txtK
  repeat' split
  all_goals (try simp only [ByteArray.size_append])
  all_goals omega
theorem J_sizeN : ∀ (n : Nat) (xs : List ByteArray), xs.length = n → (∀ x ∈ xs, x.size ≤ 50) → (J xs).size ≤ 51 * n
  | 0, xs, hl, _ => by
    have : xs = [] := List.eq_nil_of_length_eq_zero hl
    subst this
    exact Nat.le_refl _
  | n + 1, xs, hl, h => by
    have hne : xs ≠ [] := by intro e; rw [e] at hl; cases hl
    obtain ⟨ys, x, rfl⟩ : ∃ ys x, xs = ys ++ [x] := ⟨xs.dropLast, xs.getLast hne, (List.dropLast_concat_getLast hne).symm⟩
    have h1 := J_sizeN n ys (by simp at hl; exact hl) (fun y hy => h y (List.mem_append_left _ hy))
    have h2 := h x (by simp)
    by_cases hx : ys = []
    · subst hx
      rw [List.nil_append, J_one]
      omega
    · rw [J_snoc ys x hx, ByteArray.size_append, ByteArray.size_append]
      have h3 : semi.size = 1 := rfl
      omega
theorem J_size (xs : List ByteArray) (h : ∀ x ∈ xs, x.size ≤ 50) : (J xs).size ≤ 51 * xs.length := J_sizeN _ xs rfl h
theorem str_addL (a b : ByteArray) (h : a.size + b.size ≤ 1000000000) : ∀ w : World, (Op.stringOp .add a b).run Tryd.prog w = .ok (.string (a ++ b)) w := by
  intro w
  have h2 : ¬ (((a.size + b.size : Nat) : Int) > IntKind.i64.max) := by
    have : IntKind.i64.max = 9223372036854775807 := by decide
    omega
  simp only [Op.stringOp, h2, if_false]
  rfl
def texts (l : List Ins3) : List ByteArray := l.map txt
def bodyT (l : List Ins3) : ByteArray := if Bb.allOk l then J (texts l) else ⟨#[]⟩
theorem texts_more {l : List Ins3} {k : Nat} {x : Ins3} (h : l[k]? = some x) : texts (l.take (k + 1)) = texts (l.take k) ++ [txt x] := by
  obtain ⟨hk, rfl⟩ := List.getElem?_eq_some_iff.1 h
  unfold texts
  rw [← List.take_append_getElem hk, List.map_append]
  rfl
theorem texts_len (l : List Ins3) (k : Nat) (h : k ≤ l.length) : (texts (l.take k)).length = k := by
  unfold texts
  rw [List.length_map, List.length_take]
  omega
theorem texts_size (l : List Ins3) : ∀ x ∈ texts l, x.size ≤ 50 := by
  intro x hx
  obtain ⟨i, _, rfl⟩ := List.mem_map.1 hx
  exact txt_size i
theorem J_first {l : List Ins3} {x : Ins3} (h : l[0]? = some x) : J (texts (l.take (0 + 1))) = txt x := by
  rw [texts_more h, List.take_zero]
  exact J_one _
theorem J_more {l : List Ins3} {k : Nat} {x : Ins3} (h : l[k]? = some x) (h0 : 0 < k) : J (texts (l.take (k + 1))) = (J (texts (l.take k)) ++ semi) ++ txt x := by
  rw [texts_more h, J_snoc _ _ (fun e => by have h1 := texts_len l k (by have := (List.getElem?_eq_some_iff.1 h).1; omega); rw [e] at h1; simp at h1; omega)]
theorem empty_app (a : ByteArray) : (⟨#[]⟩ : ByteArray) ++ a = a := by apply ByteArray.ext; simp
theorem hasA_c (op : Int) (w : World) : Calls Tryd.prog 74 #[.int .i64 op] w fun e w' => e = .returned (.bool (decide (kind op ≠ 0))) ∧ w = w' := by
  cases hbg : isBeg op
  · have HB := hide hbg
    cases hix : isIdx op
    · have HI := hide hix
      cases hmm : isMem op
      · have HM := hide hmm
        by_cases h65 : op = 65
        · subst h65
          clear hbg hix hmm
          go_enter Tryd.func74, Tryd.ntmps74
          go_wp2_with fail
          refine (ibeg_b _ _ _ HB).mono ?_
          rintro e w' ⟨rfl, rfl⟩
          go_wp2_with fail
          refine (iidx_b _ _ _ HI).mono ?_
          rintro e w' ⟨rfl, rfl⟩
          go_wp2_with fail
          refine (imem_b _ _ _ HM).mono ?_
          rintro e w' ⟨rfl, rfl⟩
          go_wp2_with fail
          go_ret
          exact ⟨rfl, rfl⟩
        · have hk := kind_none hbg hix hmm h65
          have hb : (op == 65) = false := by simpa using h65
          rw [hk]
          clear hbg hix hmm hk h65
          go_enter Tryd.func74, Tryd.ntmps74
          go_wp2_with fail
          refine (ibeg_b _ _ _ HB).mono ?_
          rintro e w' ⟨rfl, rfl⟩
          go_wp2_with fail
          refine (iidx_b _ _ _ HI).mono ?_
          rintro e w' ⟨rfl, rfl⟩
          go_wp2_with fail
          refine (imem_b _ _ _ HM).mono ?_
          rintro e w' ⟨rfl, rfl⟩
          go_wp2_with fail
          go_ret
          exact ⟨rfl, rfl⟩
      · have HM := hide hmm
        rw [(kind_mem hmm).1]
        clear hbg hix hmm
        go_enter Tryd.func74, Tryd.ntmps74
        go_wp2_with fail
        refine (ibeg_b _ _ _ HB).mono ?_
        rintro e w' ⟨rfl, rfl⟩
        go_wp2_with fail
        refine (iidx_b _ _ _ HI).mono ?_
        rintro e w' ⟨rfl, rfl⟩
        go_wp2_with fail
        refine (imem_b _ _ _ HM).mono ?_
        rintro e w' ⟨rfl, rfl⟩
        go_wp2_with fail
        go_ret
        exact ⟨rfl, rfl⟩
    · have HI := hide hix
      rw [(kind_idx hix).1]
      clear hbg hix
      go_enter Tryd.func74, Tryd.ntmps74
      go_wp2_with fail
      refine (ibeg_b _ _ _ HB).mono ?_
      rintro e w' ⟨rfl, rfl⟩
      go_wp2_with fail
      refine (iidx_b _ _ _ HI).mono ?_
      rintro e w' ⟨rfl, rfl⟩
      go_wp2_with fail
      go_ret
      exact ⟨rfl, rfl⟩
  · have HB := hide hbg
    rw [kind_beg hbg]
    clear hbg
    go_enter Tryd.func74, Tryd.ntmps74
    go_wp2_with fail
    refine (ibeg_b _ _ _ HB).mono ?_
    rintro e w' ⟨rfl, rfl⟩
    go_wp2_with fail
    go_ret
    exact ⟨rfl, rfl⟩
theorem mem_kind (op : Int) : isMem op = decide (kind op = 3) := by
  cases h : isMem op
  · symm
    apply decide_eq_false
    unfold kind
    rw [h]
    repeat' split
    all_goals first | omega | simp_all
  · rw [(kind_mem h).1]; rfl
theorem insText_c (op a b : Int) (w : World) (hT : Tab w) (hP : TabP w) : Calls Tryd.prog 30 #[.agg #[.int .i64 op, .int .i64 a, .int .i64 b]] w fun e w' => e = .returned (.string (txt (op, a, b))) ∧ Below w.heap.size w w' := by
  have HO := hide (fun w h => iOpName op w h)
  have HA := hide (fun w h => iNumText a w h)
  have HB := hide (fun w h => iNumText b w h)
  have HH := hide (fun w => hasA_c op w)
  have HM := hide (fun w => imem_c op w)
  have hm := mem_kind op
  obtain ⟨k, hk⟩ : ∃ k, kind op = k := ⟨_, rfl⟩
  have hkb := kind_bd op
  have s1 := name_size op
  have s2 := nt_le a
  have s3 := nt_le b
  have hx : txt (op, a, b) = txtK (kind op) (opName op) (nt (wrap32 a)) (nt (wrap32 b)) := rfl
  rw [hx]
  rw [hk] at HH hm hkb ⊢
  rw [hm] at HM
  obtain ⟨o, ho⟩ : ∃ o, opName op = o := ⟨_, rfl⟩
  obtain ⟨A, hA⟩ : ∃ A, nt (wrap32 a) = A := ⟨_, rfl⟩
  obtain ⟨B, hB⟩ : ∃ B, nt (wrap32 b) = B := ⟨_, rfl⟩
  rw [ho] at HO s1 ⊢
  rw [hA] at HA s2 ⊢
  rw [hB] at HB s3 ⊢
  have V0 := var3_new w op a b 61
  have hb0 := (Below.refl w.heap.size w).alloc (Nat.le_refl _) (.cells #[.int .i64 op, .int .i64 a, .int .i64 b] 61)
  have HT0 := hide (tabS_bel hT hb0)
  have HP0 := hide (tabP_bel hP hb0)
  have g1 : sp.size = 1 := rfl
  have e1 : ∀ w : World, (Op.stringOp .add ⟨#[32]⟩ A).run Tryd.prog w = .ok (.string (sp ++ A)) w := str_addL sp A (by omega)
  have e2 : ∀ w : World, (Op.stringOp .add ⟨#[32]⟩ B).run Tryd.prog w = .ok (.string (sp ++ B)) w := str_addL sp B (by omega)
  have e3 := str_addL o (sp ++ A) (by rw [ByteArray.size_append]; omega)
  have e4 := str_addL (o ++ (sp ++ A)) (sp ++ B) (by simp only [ByteArray.size_append]; omega)
  clear hk hm ho hA hB hT hP hb0 hx s1 s2 s3 g1
  rcases (by omega : k = 0 ∨ k = 3 ∨ (k ≠ 0 ∧ k ≠ 3)) with rfl | rfl | ⟨k0, k3⟩
  · go_enter Tryd.func30, Tryd.ntmps30
    go_wp2_with fail
    generalize w.alloc (.cells #[.int .i64 op, .int .i64 a, .int .i64 b] 61) = W0 at V0 HT0 HP0 ⊢
    refine (HO.out _ HT0.out).mono ?_
    rintro e w1 ⟨rfl, hb1⟩
    obtain ⟨c0, c1, c2, hbl⟩ := var3_bel V0 hb1
    have HBl := hide hbl
    clear V0 hb1 hbl
    go_wp2_with fail
    refine (HH.out _).mono ?_
    rintro e w' ⟨rfl, rfl⟩
    go_wp2_with fail
    refine (HM.out _).mono ?_
    rintro e w' ⟨rfl, rfl⟩
    go_wp2_with fail
    go_ret
    exact ⟨rfl, HBl.out⟩
  · go_enter Tryd.func30, Tryd.ntmps30
    go_wp2_with fail
    generalize w.alloc (.cells #[.int .i64 op, .int .i64 a, .int .i64 b] 61) = W0 at V0 HT0 HP0 ⊢
    refine (HO.out _ HT0.out).mono ?_
    rintro e w1 ⟨rfl, hb1⟩
    have V1 := var3_bel V0 hb1
    obtain ⟨c0, c1, c2, hbl⟩ := V1
    have HV1 := hide (show Var3 w op a b w1 from ⟨c0, c1, c2, hbl⟩)
    have HP1 := hide (tabP_bel HP0.out hb1)
    clear V0 hb1 hbl
    go_wp2_with fail
    refine (HH.out _).mono ?_
    rintro e w' ⟨rfl, rfl⟩
    go_wp2_with fail
    refine (HA.out _ HP1.out).mono ?_
    rintro e w2 ⟨rfl, q, os, rfl⟩
    have V2 := var3_bel HV1.out (bel_growT w1 q os)
    have HP2 := hide (tabP_bel HP1.out (bel_growT w1 q os))
    generalize «Sort».grow (w1.drewN q) os = w2 at V2 HP2 ⊢
    clear c0 c1 c2
    obtain ⟨c0, c1, c2, hbl⟩ := V2
    have HV2 := hide (show Var3 w op a b w2 from ⟨c0, c1, c2, hbl⟩)
    clear hbl
    go_wp2_with fail
    refine (HM.out _).mono ?_
    rintro e w' ⟨rfl, rfl⟩
    go_wp2_with fail
    refine (HB.out _ HP2.out).mono ?_
    rintro e w3 ⟨rfl, q3, os3, rfl⟩
    have V3 := hide (var3_bel HV2.out (bel_growT w2 q3 os3))
    generalize «Sort».grow (w2.drewN q3) os3 = w3 at V3 ⊢
    go_wp2_with fail
    go_ret
    exact ⟨rfl, V3.out.2.2.2⟩
  · have k0b : decide (k ≠ 0) = true := decide_eq_true k0
    have k3b : decide (k = 3) = false := decide_eq_false k3
    rw [k0b] at HH
    rw [k3b] at HM
    have hxk : txtK k o A B = o ++ (sp ++ A) := by unfold txtK; rw [if_neg k0, if_neg k3]
    rw [hxk]
    clear k0b k3b hxk
    go_enter Tryd.func30, Tryd.ntmps30
    go_wp2_with fail
    generalize w.alloc (.cells #[.int .i64 op, .int .i64 a, .int .i64 b] 61) = W0 at V0 HT0 HP0 ⊢
    refine (HO.out _ HT0.out).mono ?_
    rintro e w1 ⟨rfl, hb1⟩
    have V1 := var3_bel V0 hb1
    obtain ⟨c0, c1, c2, hbl⟩ := V1
    have HV1 := hide (show Var3 w op a b w1 from ⟨c0, c1, c2, hbl⟩)
    have HP1 := hide (tabP_bel HP0.out hb1)
    clear V0 hb1 hbl
    go_wp2_with fail
    refine (HH.out _).mono ?_
    rintro e w' ⟨rfl, rfl⟩
    go_wp2_with fail
    refine (HA.out _ HP1.out).mono ?_
    rintro e w2 ⟨rfl, q, os, rfl⟩
    have V2 := var3_bel HV1.out (bel_growT w1 q os)
    generalize «Sort».grow (w1.drewN q) os = w2 at V2 ⊢
    clear c0 c1 c2
    obtain ⟨c0, c1, c2, hbl⟩ := V2
    have HV2 := hide hbl
    clear hbl
    go_wp2_with fail
    refine (HM.out _).mono ?_
    rintro e w' ⟨rfl, rfl⟩
    go_wp2_with fail
    go_ret
    exact ⟨rfl, HV2.out⟩
theorem iBodyText (A : Option Addr) (n c : Nat) (l : List Ins3) (w : World) (hr : Rd w w.heap.size 3 A n (insC l)) (hn : n ≤ 1048576) (hT : Tab w) (hP : TabP w) :
    Calls Tryd.prog 10 #[.slice A n c] w fun e w' => e = .returned (.string (bodyT l)) ∧ Below w.heap.size w w' := by
  have hn' : (n : Int) ≤ 1048576 := by omega
  have HA := hide (Bb.allOk_c A n c l w hr hn)
  have HR := hide hr
  have HL := hide (rd_ins hr)
  have HT := hide hT
  have HP := hide hP
  clear hr hn hT hP
  cases hok : Bb.allOk l
  · have hF : bodyT l = ⟨#[]⟩ := by unfold bodyT; rw [hok]; rfl
    rw [hF]
    rw [hok] at HA
    clear hF hok
    go_enter Tryd.func10, Tryd.ntmps10
    go_wp2_with fail
    refine HA.out.mono ?_
    rintro e w1 ⟨rfl, hb⟩
    go_wp2_with fail
    go_ret
    exact ⟨rfl, hb⟩
  · have hF : bodyT l = J (texts l) := by unfold bodyT; rw [hok]; rfl
    rw [hF]
    rw [hok] at HA
    clear hF hok
    go_enter Tryd.func10, Tryd.ntmps10
    go_wp2_with fail
    refine HA.out.mono ?_
    rintro e w1 ⟨rfl, hb⟩
    have HB1 := hide hb
    clear hb
    go_wp2_with fail
    go_loopw [3, 11] (fun s i wr => ∃ (k : Nat) (As : Option Addr) (cs : Nat), k ≤ n ∧ i = .int .i64 k ∧ s = .slice As k cs ∧ Hid (Ow wr w.heap.size 9 1 As k cs (strC (texts (l.take k)))) ∧ Hid (Below w.heap.size w wr)) (fun _ i _ => n - (intOf i).toNat)
    case atStart => exact ⟨0, none, 0, Nat.zero_le _, rfl, rfl, hide ((Bb.own_nilB w1 _ _).base_le HB1.out.size), HB1⟩
    case round =>
      obtain ⟨k, As, cs, hk, rfl, rfl, HOw, HB⟩ := hrel
      by_cases hlt : k < n
      · obtain ⟨b, off, rfl, x, y, z, hx, c0, c1, c2, hbb⟩ := rd_cell (wr := wr) HR.out k hlt (fun p hp => HB.out.cell hp)
        have hi0 : (0 : Int) ≤ k := by omega
        have hi1 : (k : Int) < n := by omega
        have HXk := hide hx
        clear hx
        obtain ⟨F, hF⟩ : ∃ F, txt (x, y, z) = F := ⟨_, rfl⟩
        have HC := hide (fun w hT hP => insText_c x y z w hT hP)
        rw [hF] at HC
        have HF := hide hF
        have HBa := hide (HB.out.alloc HB.out.size (.cells #[.int .i64 x, .int .i64 y, .int .i64 z] 61))
        clear hF
        go_wp2_with fail
        refine (HC.out _ (tabS_bel HT.out HBa.out) (tabP_bel HP.out HBa.out)).mono ?_
        rintro e w2 ⟨rfl, hb2⟩
        have HO2 := hide (Ow.below (World.ownsRow.alloc HOw.out (.cells #[.int .i64 x, .int .i64 y, .int .i64 z] 61)) hb2 (Nat.le_refl _))
        have HB2 := hide (bel_step HBa.out hb2 HBa.out.size)
        clear hb2
        go_wp2_with (at_builtin; refine app1 rfl _ _ rfl rfl rfl ES HO2.out rfl (oneS _) (by omega) HB2.out.size ?_; intro B3 d3 w3 ho3 hg3 hl3)
        go_roundw
        case rel =>
          first
          | refine ⟨k + 1, B3, d3, by omega, by go_num, rfl, hide ?_, hide (bel_grown HB2.out hg3 HB2.out.size (fun g hg => (HO2.out.blk_lt g hg).1))⟩
          | refine ⟨k + 1, by omega, by go_num, B3, d3, ⟨rfl, rfl, rfl⟩, hide ?_, hide (bel_grown HB2.out hg3 HB2.out.size (fun g hg => (HO2.out.blk_lt g hg).1))⟩
          rw [texts_more HXk.out, HF.out]
          simpa [strC] using ho3
        case measure => simp [intOf]; omega
      · obtain rfl : k = n := by omega
        have hl := HL.out
        have HO := hide (show Ow wr w.heap.size 9 1 As k cs (strC (texts l)) by have h := HOw.out; rw [List.take_of_length_le (by omega)] at h; exact h)
        have htl : (texts l).length = k := by unfold texts; rw [List.length_map]; exact hl
        have HJ : Hid (Calls Tryd.prog 31 #[.slice As k cs, .string ⟨#[59]⟩] wr fun e w' => e = .returned (.string (J (texts l))) ∧ Below wr.heap.size wr w') := by
          by_cases h0 : k = 0
          · subst h0
            have he : texts l = [] := List.eq_nil_of_length_eq_zero htl
            rw [he]
            exact hide ((Tryd.strings_Join_none As cs _ wr).mono fun e w' ⟨he, hw⟩ => ⟨he, by subst hw; exact Below.refl _ _⟩)
          · obtain ⟨g, hA, _, hgl⟩ := HO.out.form (by omega)
            have hrd := HO.out.rd
            have hcap := own_cap HO.out (by omega)
            subst hA
            obtain ⟨b2, off2, hA2, _, hcell⟩ := hrd.2 (by omega)
            injection hA2 with hA2
            injection hA2 with e1 e2 _
            subst e1; subst e2
            have hj := Tryd.strings_Join g 0 cs (texts l) ⟨#[59]⟩ wr (fun j x hx => hcell j _ (by simp [strC, hx])) hgl (by omega) (by omega) (by
              have := J_size (texts l) (texts_size l)
              have h3 : (J (texts l)).size = (Lib.join ((texts l).map (·.data.toList)) semi.data.toList).length := by unfold J; simp [ByteArray.size]
              rw [h3] at this
              show (Lib.join ((texts l).map (·.data.toList)) semi.data.toList).length ≤ _
              omega)
            rw [htl] at hj
            exact hide hj
        clear HOw HO hl htl
        go_wp2_with fail
        refine HJ.out.mono ?_
        rintro e w3 ⟨rfl, hb3⟩
        have HB3 := hide (bel_step HB.out hb3 HB.out.size)
        clear hb3
        go_wp2_with fail
        go_ret
        exact ⟨rfl, HB3.out⟩
theorem sBodyText (A : Option Addr) (n c : Nat) (l : List Ins3) (w : World) (hr : Rd w w.heap.size 3 A n (insC l)) (hn : n ≤ 1048577) :
    Calls Tryd.prog 8 #[.slice A n c] w fun e w' => e = .returned (.string (bodyT l)) ∧ Below w.heap.size w w' := by
  have hn' : (n : Int) ≤ 1048577 := by omega
  have HR := hide hr
  have HL := hide (rd_ins hr)
  clear hr hn
  obtain ⟨RT, hRT⟩ : ∃ RT, bodyT l = RT := ⟨_, rfl⟩
  rw [hRT]
  have HRT := hide hRT
  clear hRT
  go_enter Tryd.func8, Tryd.ntmps8
  go_wp2_with fail
  go_loopw [3, 8] (fun s i wr => ∃ (k : Nat) (X : ByteArray), k ≤ n ∧ i = .int .i64 k ∧ s = .string X ∧ Hid (X = J (texts (l.take k))) ∧ Hid (Below w.heap.size w wr) ∧ Hid (∀ j : Nat, j < k → ∀ x, l[j]? = some x → insOk x = true)) (fun _ i _ => n - (intOf i).toNat)
  case atStart => exact ⟨0, _, Nat.zero_le _, rfl, rfl, hide rfl, hide (Below.refl _ _), hide (fun j hj => by omega)⟩
  case round =>
    obtain ⟨k, X, hk, rfl, rfl, HJx, HBl, HE⟩ := hrel
    by_cases hlt : k < n
    · obtain ⟨b, off, rfl, x, y, z, hx, c0, c1, c2, hbb⟩ := rd_cell (wr := wr) HR.out k hlt (fun p hp => HBl.out.cell hp)
      have hi0 : (0 : Int) ≤ k := by omega
      have hi1 : (k : Int) < n := by omega
      have HXk := hide hx
      have hXs : X.size ≤ 60000000 := by
        rw [HJx.out]
        have h1 := J_size (texts (l.take k)) (texts_size _)
        rw [texts_len l k (by have := HL.out; omega)] at h1
        omega
      clear hx
      have HK := hide (fun w => sInsOk x y z w)
      have V0 := var3_new wr x y z 61
      cases hok : insOk (x, y, z)
      · rw [hok] at HK
        have hF : RT = ⟨#[]⟩ := by rw [← HRT.out]; unfold bodyT; rw [Bb.allOk_no HXk.out hok]; rfl
        subst hF
        clear hok
        go_wp2_with fail
        refine (HK.out _).mono ?_
        rintro e w2 ⟨rfl, hb2⟩
        have V2 := hide (var3_bel V0 hb2)
        clear hb2 V0
        go_wp2_with fail
        go_ret
        exact ⟨rfl, bel_step HBl.out V2.out.2.2.2 HBl.out.size⟩
      · rw [hok] at HK
        have HEall0 : ∀ j : Nat, j < k + 1 → ∀ q, l[j]? = some q → insOk q = true := fun j hj q hq => by
          by_cases hjk : j < k
          · exact HE.out j hjk q hq
          · obtain rfl : j = k := by omega
            rw [HXk.out] at hq
            rw [← Option.some.inj hq]
            exact hok
        have HEall := hide HEall0
        clear hok HEall0
        have HO := hide (fun w => sOpName x w)
        have HA := hide (fun w => sNumText y w)
        have HB := hide (fun w => sNumText z w)
        have HKd := hide (fun w => skind_c x w)
        have hkb := kind_bd x
        have s1 := name_size x
        have s2 := nt_le y
        have s3 := nt_le z
        have g1 : sp.size = 1 := rfl
        have g2 : semi.size = 1 := rfl
        have hF : txt (x, y, z) = txtK (kind x) (opName x) (nt (wrap32 y)) (nt (wrap32 z)) := rfl
        obtain ⟨q, hq⟩ : ∃ q, kind x = q := ⟨_, rfl⟩
        obtain ⟨o, ho⟩ : ∃ o, opName x = o := ⟨_, rfl⟩
        obtain ⟨A, hA⟩ : ∃ A, nt (wrap32 y) = A := ⟨_, rfl⟩
        obtain ⟨B, hB⟩ : ∃ B, nt (wrap32 z) = B := ⟨_, rfl⟩
        rw [hq, ho, hA, hB] at hF
        rw [ho] at HO s1
        rw [hA] at HA s2
        rw [hB] at HB s3
        rw [hq] at HKd hkb
        have HF := hide hF
        clear hq ho hA hB hF
        by_cases hk0 : 0 < k
        · have hk0' : (0 : Int) < k := by omega
          rcases (by omega : q = 0 ∨ q = 3 ∨ (q ≠ 0 ∧ q ≠ 3)) with rfl | rfl | ⟨q0, q3⟩
          · obtain ⟨X1, hX1⟩ : ∃ Y, X ++ semi = Y := ⟨_, rfl⟩
            have sX1 : X1.size = X.size + semi.size := by rw [← hX1, ByteArray.size_append]
            have dX1 : ∀ w : World, (Op.stringOp .add X ⟨#[59]⟩).run Tryd.prog w = .ok (.string X1) w := hX1 ▸ str_addL X semi (by omega)
            obtain ⟨X2, hX2⟩ : ∃ Y, X1 ++ o = Y := ⟨_, rfl⟩
            have sX2 : X2.size = X1.size + o.size := by rw [← hX2, ByteArray.size_append]
            have dX2 : ∀ w : World, (Op.stringOp .add X1 o).run Tryd.prog w = .ok (.string X2) w := hX2 ▸ str_addL X1 o (by omega)
            have HEnd := hide (show X2 = J (texts (l.take (k + 1))) by
              rw [J_more HXk.out hk0, HF.out]
              rw [← hX2, ← hX1]
              rw [← HJx.out]
              show _ = (X ++ semi) ++ txtK 0 o A B
              rw [show txtK 0 o A B = o by unfold txtK; rw [if_pos rfl]])
            clear hX1 hX2 sX1 sX2 s1 s2 s3 g1 g2 hXs
            go_wp2_with fail
            refine (HK.out _).mono ?_
            rintro e w2 ⟨rfl, hb2⟩
            have V2 := var3_bel V0 hb2
            obtain ⟨v0, v1, v2, hv3⟩ := V2
            have HV2 := hide (show Var3 wr x y z w2 from ⟨v0, v1, v2, hv3⟩)
            clear hb2 hv3 V0
            go_wp2_with fail
            refine (HO.out _).mono ?_
            rintro e w3 ⟨rfl, hb3⟩
            have V3 := var3_bel HV2.out hb3
            clear v0 v1 v2
            obtain ⟨v0, v1, v2, hv3⟩ := V3
            have HV3 := hide (show Var3 wr x y z w3 from ⟨v0, v1, v2, hv3⟩)
            clear hb3 hv3
            go_wp2_with fail
            refine (HKd.out _).mono ?_
            rintro e w' ⟨rfl, rfl⟩
            go_wp2_with fail
            refine (HKd.out _).mono ?_
            rintro e w' ⟨rfl, rfl⟩
            go_wp2_with fail
            go_roundw
            case rel =>
              first
              | exact ⟨k + 1, X2, by omega, by go_num, rfl, HEnd, hide (bel_step HBl.out HV3.out.2.2.2 HBl.out.size), HEall⟩
              | exact ⟨k + 1, by omega, by go_num, X2, rfl, HEnd, hide (bel_step HBl.out HV3.out.2.2.2 HBl.out.size), HEall⟩
            case measure => simp [intOf]; omega
          · obtain ⟨X1, hX1⟩ : ∃ Y, X ++ semi = Y := ⟨_, rfl⟩
            have sX1 : X1.size = X.size + semi.size := by rw [← hX1, ByteArray.size_append]
            have dX1 : ∀ w : World, (Op.stringOp .add X ⟨#[59]⟩).run Tryd.prog w = .ok (.string X1) w := hX1 ▸ str_addL X semi (by omega)
            obtain ⟨X2, hX2⟩ : ∃ Y, X1 ++ o = Y := ⟨_, rfl⟩
            have sX2 : X2.size = X1.size + o.size := by rw [← hX2, ByteArray.size_append]
            have dX2 : ∀ w : World, (Op.stringOp .add X1 o).run Tryd.prog w = .ok (.string X2) w := hX2 ▸ str_addL X1 o (by omega)
            obtain ⟨X3, hX3⟩ : ∃ Y, X2 ++ sp = Y := ⟨_, rfl⟩
            have sX3 : X3.size = X2.size + sp.size := by rw [← hX3, ByteArray.size_append]
            have dX3 : ∀ w : World, (Op.stringOp .add X2 ⟨#[32]⟩).run Tryd.prog w = .ok (.string X3) w := hX3 ▸ str_addL X2 sp (by omega)
            obtain ⟨X4, hX4⟩ : ∃ Y, X3 ++ A = Y := ⟨_, rfl⟩
            have sX4 : X4.size = X3.size + A.size := by rw [← hX4, ByteArray.size_append]
            have dX4 : ∀ w : World, (Op.stringOp .add X3 A).run Tryd.prog w = .ok (.string X4) w := hX4 ▸ str_addL X3 A (by omega)
            obtain ⟨X5, hX5⟩ : ∃ Y, X4 ++ sp = Y := ⟨_, rfl⟩
            have sX5 : X5.size = X4.size + sp.size := by rw [← hX5, ByteArray.size_append]
            have dX5 : ∀ w : World, (Op.stringOp .add X4 ⟨#[32]⟩).run Tryd.prog w = .ok (.string X5) w := hX5 ▸ str_addL X4 sp (by omega)
            obtain ⟨X6, hX6⟩ : ∃ Y, X5 ++ B = Y := ⟨_, rfl⟩
            have sX6 : X6.size = X5.size + B.size := by rw [← hX6, ByteArray.size_append]
            have dX6 : ∀ w : World, (Op.stringOp .add X5 B).run Tryd.prog w = .ok (.string X6) w := hX6 ▸ str_addL X5 B (by omega)
            have HEnd := hide (show X6 = J (texts (l.take (k + 1))) by
              rw [J_more HXk.out hk0, HF.out]
              rw [← hX6, ← hX5, ← hX4, ← hX3, ← hX2, ← hX1]
              rw [← HJx.out]
              show _ = (X ++ semi) ++ txtK 3 o A B
              rw [show txtK 3 o A B = (o ++ (sp ++ A)) ++ (sp ++ B) by unfold txtK; rw [if_neg (by omega), if_pos rfl]]
              simp only [app_assoc])
            clear hX1 hX2 hX3 hX4 hX5 hX6 sX1 sX2 sX3 sX4 sX5 sX6 s1 s2 s3 g1 g2 hXs
            go_wp2_with fail
            refine (HK.out _).mono ?_
            rintro e w2 ⟨rfl, hb2⟩
            have V2 := var3_bel V0 hb2
            obtain ⟨v0, v1, v2, hv3⟩ := V2
            have HV2 := hide (show Var3 wr x y z w2 from ⟨v0, v1, v2, hv3⟩)
            clear hb2 hv3 V0
            go_wp2_with fail
            refine (HO.out _).mono ?_
            rintro e w3 ⟨rfl, hb3⟩
            have V3 := var3_bel HV2.out hb3
            clear v0 v1 v2
            obtain ⟨v0, v1, v2, hv3⟩ := V3
            have HV3 := hide (show Var3 wr x y z w3 from ⟨v0, v1, v2, hv3⟩)
            clear hb3 hv3
            go_wp2_with fail
            refine (HKd.out _).mono ?_
            rintro e w' ⟨rfl, rfl⟩
            go_wp2_with fail
            refine (HA.out _).mono ?_
            rintro e w4 ⟨rfl, hb4⟩
            have V4 := var3_bel HV3.out hb4
            clear v0 v1 v2
            obtain ⟨v0, v1, v2, hv3⟩ := V4
            have HV4 := hide (show Var3 wr x y z w4 from ⟨v0, v1, v2, hv3⟩)
            clear hb4 hv3
            go_wp2_with fail
            refine (HKd.out _).mono ?_
            rintro e w' ⟨rfl, rfl⟩
            go_wp2_with fail
            refine (HB.out _).mono ?_
            rintro e w5 ⟨rfl, hb5⟩
            have HV5 := hide (var3_bel HV4.out hb5)
            clear hb5 v0 v1 v2
            go_wp2_with fail
            go_roundw
            case rel =>
              first
              | exact ⟨k + 1, X6, by omega, by go_num, rfl, HEnd, hide (bel_step HBl.out HV5.out.2.2.2 HBl.out.size), HEall⟩
              | exact ⟨k + 1, by omega, by go_num, X6, rfl, HEnd, hide (bel_step HBl.out HV5.out.2.2.2 HBl.out.size), HEall⟩
            case measure => simp [intOf]; omega
          · have q0b : 0 < q := by omega
            have q3b : (q == 3) = false := by simpa using q3
            obtain ⟨X1, hX1⟩ : ∃ Y, X ++ semi = Y := ⟨_, rfl⟩
            have sX1 : X1.size = X.size + semi.size := by rw [← hX1, ByteArray.size_append]
            have dX1 : ∀ w : World, (Op.stringOp .add X ⟨#[59]⟩).run Tryd.prog w = .ok (.string X1) w := hX1 ▸ str_addL X semi (by omega)
            obtain ⟨X2, hX2⟩ : ∃ Y, X1 ++ o = Y := ⟨_, rfl⟩
            have sX2 : X2.size = X1.size + o.size := by rw [← hX2, ByteArray.size_append]
            have dX2 : ∀ w : World, (Op.stringOp .add X1 o).run Tryd.prog w = .ok (.string X2) w := hX2 ▸ str_addL X1 o (by omega)
            obtain ⟨X3, hX3⟩ : ∃ Y, X2 ++ sp = Y := ⟨_, rfl⟩
            have sX3 : X3.size = X2.size + sp.size := by rw [← hX3, ByteArray.size_append]
            have dX3 : ∀ w : World, (Op.stringOp .add X2 ⟨#[32]⟩).run Tryd.prog w = .ok (.string X3) w := hX3 ▸ str_addL X2 sp (by omega)
            obtain ⟨X4, hX4⟩ : ∃ Y, X3 ++ A = Y := ⟨_, rfl⟩
            have sX4 : X4.size = X3.size + A.size := by rw [← hX4, ByteArray.size_append]
            have dX4 : ∀ w : World, (Op.stringOp .add X3 A).run Tryd.prog w = .ok (.string X4) w := hX4 ▸ str_addL X3 A (by omega)
            have HEnd := hide (show X4 = J (texts (l.take (k + 1))) by
              rw [J_more HXk.out hk0, HF.out]
              rw [← hX4, ← hX3, ← hX2, ← hX1]
              rw [← HJx.out]
              show _ = (X ++ semi) ++ txtK q o A B
              rw [show txtK q o A B = o ++ (sp ++ A) by unfold txtK; rw [if_neg q0, if_neg q3]]
              simp only [app_assoc])
            clear hX1 hX2 hX3 hX4 sX1 sX2 sX3 sX4 s1 s2 s3 g1 g2 hXs
            go_wp2_with fail
            refine (HK.out _).mono ?_
            rintro e w2 ⟨rfl, hb2⟩
            have V2 := var3_bel V0 hb2
            obtain ⟨v0, v1, v2, hv3⟩ := V2
            have HV2 := hide (show Var3 wr x y z w2 from ⟨v0, v1, v2, hv3⟩)
            clear hb2 hv3 V0
            go_wp2_with fail
            refine (HO.out _).mono ?_
            rintro e w3 ⟨rfl, hb3⟩
            have V3 := var3_bel HV2.out hb3
            clear v0 v1 v2
            obtain ⟨v0, v1, v2, hv3⟩ := V3
            have HV3 := hide (show Var3 wr x y z w3 from ⟨v0, v1, v2, hv3⟩)
            clear hb3 hv3
            go_wp2_with fail
            refine (HKd.out _).mono ?_
            rintro e w' ⟨rfl, rfl⟩
            go_wp2_with fail
            refine (HA.out _).mono ?_
            rintro e w4 ⟨rfl, hb4⟩
            have V4 := var3_bel HV3.out hb4
            clear v0 v1 v2
            obtain ⟨v0, v1, v2, hv3⟩ := V4
            have HV4 := hide (show Var3 wr x y z w4 from ⟨v0, v1, v2, hv3⟩)
            clear hb4 hv3
            go_wp2_with fail
            refine (HKd.out _).mono ?_
            rintro e w' ⟨rfl, rfl⟩
            go_wp2_with fail
            go_roundw
            case rel =>
              first
              | exact ⟨k + 1, X4, by omega, by go_num, rfl, HEnd, hide (bel_step HBl.out HV4.out.2.2.2 HBl.out.size), HEall⟩
              | exact ⟨k + 1, by omega, by go_num, X4, rfl, HEnd, hide (bel_step HBl.out HV4.out.2.2.2 HBl.out.size), HEall⟩
            case measure => simp [intOf]; omega
        · obtain rfl : k = 0 := by omega
          simp only [Nat.zero_mul, Nat.add_zero] at c0 c1 c2
          rcases (by omega : q = 0 ∨ q = 3 ∨ (q ≠ 0 ∧ q ≠ 3)) with rfl | rfl | ⟨q0, q3⟩
          · obtain ⟨X1, hX1⟩ : ∃ Y, X ++ o = Y := ⟨_, rfl⟩
            have sX1 : X1.size = X.size + o.size := by rw [← hX1, ByteArray.size_append]
            have dX1 : ∀ w : World, (Op.stringOp .add X o).run Tryd.prog w = .ok (.string X1) w := hX1 ▸ str_addL X o (by omega)
            have HEnd := hide (show X1 = J (texts (l.take (0 + 1))) by
              rw [J_first HXk.out, HF.out]
              rw [← hX1]
              rw [show X = ⟨#[]⟩ from HJx.out]
              show _ = txtK 0 o A B
              rw [show txtK 0 o A B = o by unfold txtK; rw [if_pos rfl]]
              simp only [empty_app])
            clear hX1 sX1 s1 s2 s3 g1 g2 hXs
            go_wp2_with fail
            refine (HK.out _).mono ?_
            rintro e w2 ⟨rfl, hb2⟩
            have V2 := var3_bel V0 hb2
            obtain ⟨v0, v1, v2, hv3⟩ := V2
            have HV2 := hide (show Var3 wr x y z w2 from ⟨v0, v1, v2, hv3⟩)
            clear hb2 hv3 V0
            go_wp2_with fail
            refine (HO.out _).mono ?_
            rintro e w3 ⟨rfl, hb3⟩
            have V3 := var3_bel HV2.out hb3
            clear v0 v1 v2
            obtain ⟨v0, v1, v2, hv3⟩ := V3
            have HV3 := hide (show Var3 wr x y z w3 from ⟨v0, v1, v2, hv3⟩)
            clear hb3 hv3
            go_wp2_with fail
            refine (HKd.out _).mono ?_
            rintro e w' ⟨rfl, rfl⟩
            go_wp2_with fail
            refine (HKd.out _).mono ?_
            rintro e w' ⟨rfl, rfl⟩
            go_wp2_with fail
            go_roundw
            case rel =>
              first
              | exact ⟨0 + 1, X1, by omega, by go_num, rfl, HEnd, hide (bel_step HBl.out HV3.out.2.2.2 HBl.out.size), HEall⟩
              | exact ⟨0 + 1, by omega, by go_num, X1, rfl, HEnd, hide (bel_step HBl.out HV3.out.2.2.2 HBl.out.size), HEall⟩
            case measure => simp [intOf]; omega
          · obtain ⟨X1, hX1⟩ : ∃ Y, X ++ o = Y := ⟨_, rfl⟩
            have sX1 : X1.size = X.size + o.size := by rw [← hX1, ByteArray.size_append]
            have dX1 : ∀ w : World, (Op.stringOp .add X o).run Tryd.prog w = .ok (.string X1) w := hX1 ▸ str_addL X o (by omega)
            obtain ⟨X2, hX2⟩ : ∃ Y, X1 ++ sp = Y := ⟨_, rfl⟩
            have sX2 : X2.size = X1.size + sp.size := by rw [← hX2, ByteArray.size_append]
            have dX2 : ∀ w : World, (Op.stringOp .add X1 ⟨#[32]⟩).run Tryd.prog w = .ok (.string X2) w := hX2 ▸ str_addL X1 sp (by omega)
            obtain ⟨X3, hX3⟩ : ∃ Y, X2 ++ A = Y := ⟨_, rfl⟩
            have sX3 : X3.size = X2.size + A.size := by rw [← hX3, ByteArray.size_append]
            have dX3 : ∀ w : World, (Op.stringOp .add X2 A).run Tryd.prog w = .ok (.string X3) w := hX3 ▸ str_addL X2 A (by omega)
            obtain ⟨X4, hX4⟩ : ∃ Y, X3 ++ sp = Y := ⟨_, rfl⟩
            have sX4 : X4.size = X3.size + sp.size := by rw [← hX4, ByteArray.size_append]
            have dX4 : ∀ w : World, (Op.stringOp .add X3 ⟨#[32]⟩).run Tryd.prog w = .ok (.string X4) w := hX4 ▸ str_addL X3 sp (by omega)
            obtain ⟨X5, hX5⟩ : ∃ Y, X4 ++ B = Y := ⟨_, rfl⟩
            have sX5 : X5.size = X4.size + B.size := by rw [← hX5, ByteArray.size_append]
            have dX5 : ∀ w : World, (Op.stringOp .add X4 B).run Tryd.prog w = .ok (.string X5) w := hX5 ▸ str_addL X4 B (by omega)
            have HEnd := hide (show X5 = J (texts (l.take (0 + 1))) by
              rw [J_first HXk.out, HF.out]
              rw [← hX5, ← hX4, ← hX3, ← hX2, ← hX1]
              rw [show X = ⟨#[]⟩ from HJx.out]
              show _ = txtK 3 o A B
              rw [show txtK 3 o A B = (o ++ (sp ++ A)) ++ (sp ++ B) by unfold txtK; rw [if_neg (by omega), if_pos rfl]]
              simp only [app_assoc, empty_app])
            clear hX1 hX2 hX3 hX4 hX5 sX1 sX2 sX3 sX4 sX5 s1 s2 s3 g1 g2 hXs
            go_wp2_with fail
            refine (HK.out _).mono ?_
            rintro e w2 ⟨rfl, hb2⟩
            have V2 := var3_bel V0 hb2
            obtain ⟨v0, v1, v2, hv3⟩ := V2
            have HV2 := hide (show Var3 wr x y z w2 from ⟨v0, v1, v2, hv3⟩)
            clear hb2 hv3 V0
            go_wp2_with fail
            refine (HO.out _).mono ?_
            rintro e w3 ⟨rfl, hb3⟩
            have V3 := var3_bel HV2.out hb3
            clear v0 v1 v2
            obtain ⟨v0, v1, v2, hv3⟩ := V3
            have HV3 := hide (show Var3 wr x y z w3 from ⟨v0, v1, v2, hv3⟩)
            clear hb3 hv3
            go_wp2_with fail
            refine (HKd.out _).mono ?_
            rintro e w' ⟨rfl, rfl⟩
            go_wp2_with fail
            refine (HA.out _).mono ?_
            rintro e w4 ⟨rfl, hb4⟩
            have V4 := var3_bel HV3.out hb4
            clear v0 v1 v2
            obtain ⟨v0, v1, v2, hv3⟩ := V4
            have HV4 := hide (show Var3 wr x y z w4 from ⟨v0, v1, v2, hv3⟩)
            clear hb4 hv3
            go_wp2_with fail
            refine (HKd.out _).mono ?_
            rintro e w' ⟨rfl, rfl⟩
            go_wp2_with fail
            refine (HB.out _).mono ?_
            rintro e w5 ⟨rfl, hb5⟩
            have HV5 := hide (var3_bel HV4.out hb5)
            clear hb5 v0 v1 v2
            go_wp2_with fail
            go_roundw
            case rel =>
              first
              | exact ⟨0 + 1, X5, by omega, by go_num, rfl, HEnd, hide (bel_step HBl.out HV5.out.2.2.2 HBl.out.size), HEall⟩
              | exact ⟨0 + 1, by omega, by go_num, X5, rfl, HEnd, hide (bel_step HBl.out HV5.out.2.2.2 HBl.out.size), HEall⟩
            case measure => simp [intOf]; omega
          · have q0b : 0 < q := by omega
            have q3b : (q == 3) = false := by simpa using q3
            obtain ⟨X1, hX1⟩ : ∃ Y, X ++ o = Y := ⟨_, rfl⟩
            have sX1 : X1.size = X.size + o.size := by rw [← hX1, ByteArray.size_append]
            have dX1 : ∀ w : World, (Op.stringOp .add X o).run Tryd.prog w = .ok (.string X1) w := hX1 ▸ str_addL X o (by omega)
            obtain ⟨X2, hX2⟩ : ∃ Y, X1 ++ sp = Y := ⟨_, rfl⟩
            have sX2 : X2.size = X1.size + sp.size := by rw [← hX2, ByteArray.size_append]
            have dX2 : ∀ w : World, (Op.stringOp .add X1 ⟨#[32]⟩).run Tryd.prog w = .ok (.string X2) w := hX2 ▸ str_addL X1 sp (by omega)
            obtain ⟨X3, hX3⟩ : ∃ Y, X2 ++ A = Y := ⟨_, rfl⟩
            have sX3 : X3.size = X2.size + A.size := by rw [← hX3, ByteArray.size_append]
            have dX3 : ∀ w : World, (Op.stringOp .add X2 A).run Tryd.prog w = .ok (.string X3) w := hX3 ▸ str_addL X2 A (by omega)
            have HEnd := hide (show X3 = J (texts (l.take (0 + 1))) by
              rw [J_first HXk.out, HF.out]
              rw [← hX3, ← hX2, ← hX1]
              rw [show X = ⟨#[]⟩ from HJx.out]
              show _ = txtK q o A B
              rw [show txtK q o A B = o ++ (sp ++ A) by unfold txtK; rw [if_neg q0, if_neg q3]]
              simp only [app_assoc, empty_app])
            clear hX1 hX2 hX3 sX1 sX2 sX3 s1 s2 s3 g1 g2 hXs
            go_wp2_with fail
            refine (HK.out _).mono ?_
            rintro e w2 ⟨rfl, hb2⟩
            have V2 := var3_bel V0 hb2
            obtain ⟨v0, v1, v2, hv3⟩ := V2
            have HV2 := hide (show Var3 wr x y z w2 from ⟨v0, v1, v2, hv3⟩)
            clear hb2 hv3 V0
            go_wp2_with fail
            refine (HO.out _).mono ?_
            rintro e w3 ⟨rfl, hb3⟩
            have V3 := var3_bel HV2.out hb3
            clear v0 v1 v2
            obtain ⟨v0, v1, v2, hv3⟩ := V3
            have HV3 := hide (show Var3 wr x y z w3 from ⟨v0, v1, v2, hv3⟩)
            clear hb3 hv3
            go_wp2_with fail
            refine (HKd.out _).mono ?_
            rintro e w' ⟨rfl, rfl⟩
            go_wp2_with fail
            refine (HA.out _).mono ?_
            rintro e w4 ⟨rfl, hb4⟩
            have V4 := var3_bel HV3.out hb4
            clear v0 v1 v2
            obtain ⟨v0, v1, v2, hv3⟩ := V4
            have HV4 := hide (show Var3 wr x y z w4 from ⟨v0, v1, v2, hv3⟩)
            clear hb4 hv3
            go_wp2_with fail
            refine (HKd.out _).mono ?_
            rintro e w' ⟨rfl, rfl⟩
            go_wp2_with fail
            go_roundw
            case rel =>
              first
              | exact ⟨0 + 1, X3, by omega, by go_num, rfl, HEnd, hide (bel_step HBl.out HV4.out.2.2.2 HBl.out.size), HEall⟩
              | exact ⟨0 + 1, by omega, by go_num, X3, rfl, HEnd, hide (bel_step HBl.out HV4.out.2.2.2 HBl.out.size), HEall⟩
            case measure => simp [intOf]; omega
    · obtain rfl : k = n := by omega
      have hl := HL.out
      have hX : X = RT := by
        rw [← HRT.out, HJx.out, List.take_of_length_le (by omega)]
        unfold bodyT
        rw [Bb.allOk_yes (fun j x hx => HE.out j (by have := (List.getElem?_eq_some_iff.1 hx).1; omega) x hx)]
        rfl
      subst hX
      go_wp2_with fail
      go_ret
      exact ⟨rfl, HBl.out⟩
end Go.Proofs.YtiinkfejdnfonaaDoor.Bt
