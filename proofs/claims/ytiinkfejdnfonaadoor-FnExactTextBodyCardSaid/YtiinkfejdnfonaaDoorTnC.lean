/- What TextNum computes, in the program and in the reference: a contract each. -/
import Derived.Test.YtiinkfejdnfonaaDoorTnN
import Derived.Test.YtiinkfejdnfonaaDoorNumC
namespace Go.Proofs.YtiinkfejdnfonaaDoor.Tn
open Go.RowKit Go.Proofs.YtiinkfejdnfonaaDoor.Num Go.Proofs.YtiinkfejdnfonaaDoor.NumC Go.Proofs.YtiinkfejdnfonaaDoor.Mem Go.Proofs.YtiinkfejdnfonaaDoor.Dig Go.Proofs.YtiinkfejdnfonaaDoor.Utf
set_option linter.unusedVariables false

theorem within_t (x lo hi : Int) (w : World) (h : lo ≤ x) (h' : x ≤ hi) : Calls Tryd.prog 55 #[.int .i64 x, .int .i64 lo, .int .i64 hi] w fun e w' => e = .returned (.bool true) ∧ w = w' := by
  go_enter Tryd.func55, Tryd.ntmps55
  go_wp2_with fail
  go_ret
  exact ⟨rfl, rfl⟩
theorem within_f (x lo hi : Int) (w : World) (h : x < lo ∨ hi < x) : Calls Tryd.prog 55 #[.int .i64 x, .int .i64 lo, .int .i64 hi] w fun e w' => e = .returned (.bool false) ∧ w = w' := by
  by_cases h1 : x < lo
  · clear h
    go_enter Tryd.func55, Tryd.ntmps55
    go_wp2_with fail
    go_ret
    exact ⟨rfl, rfl⟩
  · have h2 : lo ≤ x := by omega
    have h3 : hi < x := by omega
    have h4 : decide (x ≤ hi) = false := by simp; omega
    clear h h1
    go_enter Tryd.func55, Tryd.ntmps55
    go_wp2_with fail
    go_ret
    exact ⟨rfl, rfl⟩
/-- the library's table of powers -/
def TabP (w : World) : Prop := Lib.TabIs Tryd.prog w "internal/strconv.uint64pow10" .u64 Lib.pow10Tab
theorem tabP_bel {w w' : World} (h : TabP w) (hb : Below w.heap.size w w') : TabP w' := by
  have gTab : Tryd.prog.globalNamed "internal/strconv.uint64pow10" = some 7 := by kernel_rfl
  unfold TabP at *
  have hg : 7 < w.heap.size := by
    have := h.cell gTab 0 (by decide)
    unfold World.cell? at this
    rcases Nat.lt_or_ge 7 w.heap.size with h2 | h2
    · exact h2
    · rw [Array.getElem?_eq_none h2] at this; simp at this
  unfold Lib.TabIs World.var? at *
  rw [gTab] at h ⊢
  simp only [Option.bind_some] at h ⊢
  rw [hb.block _ hg]
  exact h
/-- an error's variable holds an error -/
def ErrAt (g : Nat) (w : World) : Prop := ∃ te pe, w.cell? ⟨g, 0, none⟩ = some (.iface te pe)
theorem errAt_bel {g : Nat} {w w' : World} (h : ErrAt g w) (hb : Below w.heap.size w w') : ErrAt g w' := by
  obtain ⟨te, pe, h⟩ := h
  exact ⟨te, pe, (hb.cell (p := ⟨g, 0, none⟩) (World.block_lt_of_cell? w _ h)).trans h⟩
/-- what TextNum reads of the library's variables -/
def Lib3 (w : World) : Prop := TabP w ∧ ErrAt 5 w ∧ ErrAt 6 w
theorem lib3_bel {w w' : World} (h : Lib3 w) (hb : Below w.heap.size w w') : Lib3 w' := ⟨tabP_bel h.1 hb, errAt_bel h.2.1 hb, errAt_bel h.2.2 hb⟩
theorem bel_growT (w : World) (k : Nat) (os : Array Obj) : Below w.heap.size w («Sort».grow (w.drewN k) os) :=
  ⟨rfl, rfl, rfl, by show w.heap.size ≤ (w.heap ++ os).size; simp, fun g hg => by show (w.heap ++ os)[g]? = w.heap[g]?; exact Array.getElem?_append_left hg⟩
theorem bel_bytes (w : World) (e : TypeId) (t : ByteArray) : Below w.heap.size w (Lib.bytesWorld w e t) :=
  ⟨rfl, rfl, rfl, by rw [Lib.bytesWorld_size]; omega, fun k hk => Lib.bytesWorld_at_old w e t k hk⟩
theorem atoi_bad (s : ByteArray) (w : World) (hm : s.size ≤ 1048576) (hL : Lib3 w) (h : ∀ v, Lib.atoiAll s.data.toList ≠ .ok v) :
    Calls Tryd.prog 84 #[.string s] w fun e w' => ∃ (n : Int) (t : TypeId) (p : Value), e = .returned (.tuple #[.int .i64 n, .iface t p]) ∧ Below w.heap.size w w' := by
  obtain ⟨te, pe, h1⟩ := hL.2.1
  obtain ⟨te', pe', h2⟩ := hL.2.2
  cases hA : Lib.atoiAll s.data.toList with
  | ok v => exact absurd hA (h v)
  | _ =>
    first
    | exact (Any.strconv_Atoi_syntax Tryd.laysC172 s (by omega) hA _ w h1 (.inr ⟨te, pe, rfl⟩)).mono fun e w' ⟨N, he, _, _, hb⟩ => ⟨_, _, _, he, hb⟩
    | exact (Any.strconv_Atoi_range Tryd.laysC172 s (by omega) hA _ w h2 (.inr ⟨te', pe', rfl⟩)).mono fun e w' ⟨N, he, _, _, hb⟩ => ⟨_, _, _, he, hb⟩
theorem atoi_good (s : ByteArray) (w : World) (hm : s.size ≤ 1048576) (v : Int) (h : Lib.atoiAll s.data.toList = .ok v) :
    Calls Tryd.prog 84 #[.string s] w fun e w' => e = .returned (.tuple #[.int .i64 v, .nilIface]) ∧ Below w.heap.size w w' :=
  (Any.strconv_Atoi_ok Tryd.laysC172 s (by omega) v h w).mono fun e w' ⟨he, hw⟩ => ⟨he, by rcases hw with rfl | ⟨t, rfl⟩; exact Below.refl _ _; exact bel_bytes _ _ _⟩
theorem iTextNum (s : ByteArray) (w : World) (hm : s.size ≤ 1048576) (hL : Lib3 w) :
    Calls Tryd.prog 38 #[.string s] w fun e w' => TN s e ∧ Below w.heap.size w w' := by
  by_cases hg : ∃ v, Lib.atoiAll s.data.toList = .ok v
  · obtain ⟨v, hv⟩ := hg
    have HA := hide (fun w => atoi_good s w hm v hv)
    have HL := hide hL
    have HV := hide hv
    clear hv hL
    by_cases hr : -2147483648 ≤ v ∧ v ≤ 2147483647
    · obtain ⟨h0, h1⟩ := hr
      have hw : wrap32 v = v := by unfold wrap32; omega
      have HI := hide (fun w h => iNumText v w h)
      rw [hw] at HI
      obtain ⟨X, hX⟩ : ∃ X, nt v = X := ⟨_, rfl⟩
      rw [hX] at HI
      by_cases hxs : X = s
      · subst hxs
        have hvv : (X.toList == X.toList) = true := by simp
        have HT : Hid (TN X (.returned (.tuple #[.int .i64 v, .bool true]))) := hide (.inl ⟨v, h0, h1, hX.symm, rfl⟩)
        clear hX hw
        go_enter Tryd.func38, Tryd.ntmps38
        go_wp2_with fail
        refine (HA.out _).mono ?_
        rintro e w1 ⟨rfl, hb1⟩
        have HL1 := hide (lib3_bel HL.out hb1)
        have B1 := hide hb1
        clear hb1
        go_wp2_with fail
        refine (within_t _ _ _ _ h0 h1).mono ?_
        rintro e w' ⟨rfl, rfl⟩
        go_wp2_with fail
        refine (HI.out _ HL1.out.1).mono ?_
        rintro e w2 ⟨rfl, k, os, rfl⟩
        have B2 := hide (bel_step B1.out (bel_growT w1 k os) B1.out.size)
        go_wp2_with fail
        go_ret2
        exact ⟨HT.out, B2.out⟩
      · have hvx : (X.toList == s.toList) = false := by
          simp only [beq_eq_false_iff_ne, ne_eq, ByteArray.toList_eq]
          intro e
          exact hxs (ByteArray.ext (Array.toList_inj.1 e))
        have HT : Hid (TN s (.returned (.tuple #[.int .i64 0, .bool false]))) := hide (.inr ⟨fun v' a0 a1 e => by
          have := atoi_nt v' a0 a1
          rw [← e, HV.out] at this
          injection this with this
          subst this
          exact hxs (hX.symm.trans e.symm), rfl⟩)
        clear hX hw hxs
        go_enter Tryd.func38, Tryd.ntmps38
        go_wp2_with fail
        refine (HA.out _).mono ?_
        rintro e w1 ⟨rfl, hb1⟩
        have HL1 := hide (lib3_bel HL.out hb1)
        have B1 := hide hb1
        clear hb1
        go_wp2_with fail
        refine (within_t _ _ _ _ h0 h1).mono ?_
        rintro e w' ⟨rfl, rfl⟩
        go_wp2_with fail
        refine (HI.out _ HL1.out.1).mono ?_
        rintro e w2 ⟨rfl, k, os, rfl⟩
        have B2 := hide (bel_step B1.out (bel_growT w1 k os) B1.out.size)
        go_wp2_with fail
        go_ret2
        exact ⟨HT.out, B2.out⟩
    · have hn : v < -2147483648 ∨ 2147483647 < v := by omega
      have HT : Hid (TN s (.returned (.tuple #[.int .i64 0, .bool false]))) := hide (.inr ⟨fun v' a0 a1 e => by
        have := atoi_nt v' a0 a1
        rw [← e, HV.out] at this
        injection this with this
        omega, rfl⟩)
      clear hr
      go_enter Tryd.func38, Tryd.ntmps38
      go_wp2_with fail
      refine (HA.out _).mono ?_
      rintro e w1 ⟨rfl, hb1⟩
      have B1 := hide hb1
      clear hb1
      go_wp2_with fail
      refine (within_f _ _ _ _ hn).mono ?_
      rintro e w' ⟨rfl, rfl⟩
      go_wp2_with fail
      go_ret2
      exact ⟨HT.out, B1.out⟩
  · have hno : ∀ v, Lib.atoiAll s.data.toList ≠ .ok v := fun v h => hg ⟨v, h⟩
    have HA := hide (atoi_bad s w hm hL hno)
    have HT : Hid (TN s (.returned (.tuple #[.int .i64 0, .bool false]))) := hide (.inr ⟨fun v' a0 a1 e => by
      have := atoi_nt v' a0 a1
      rw [← e] at this
      exact hno v' this, rfl⟩)
    clear hg hno hL
    go_enter Tryd.func38, Tryd.ntmps38
    go_wp2_with fail
    refine HA.out.mono ?_
    rintro e w1 ⟨n, t, p, rfl, hb1⟩
    have B1 := hide hb1
    clear hb1
    go_wp2_with fail
    go_ret2
    exact ⟨HT.out, B1.out⟩
theorem pow_le (i : Nat) (h : i ≤ 10) : (10 : Int) ^ i ≤ 10000000000 := by
  rcases (by omega : i = 0 ∨ i = 1 ∨ i = 2 ∨ i = 3 ∨ i = 4 ∨ i = 5 ∨ i = 6 ∨ i = 7 ∨ i = 8 ∨ i = 9 ∨ i = 10) with rfl | rfl | rfl | rfl | rfl | rfl | rfl | rfl | rfl | rfl | rfl <;> decide
theorem pow_le11 (i : Nat) (h : i ≤ 11) : (10 : Int) ^ i ≤ 100000000000 := by
  rcases (by omega : i ≤ 10 ∨ i = 11) with h | rfl
  · exact Int.le_trans (pow_le i h) (by decide)
  · decide
theorem pow_next {V y : Int} {i : Nat} (h : V < 10 ^ i) (h' : y ≤ 57) : V * 10 + (y - 48) < 10 ^ (i + 1) := by
  rw [Int.pow_succ]
  generalize (10 : Int) ^ i = P at *
  omega
theorem sTextNum_size (s : ByteArray) (w : World) (hm : (s.size : Int) ≤ 1048576) (h : s.size < 1 ∨ 11 < s.size) : Calls Tryd.prog 35 #[.string s] w fun e w' => TN s e ∧ Below w.heap.size w w' := by
  have HT : Hid (TN s (.returned (.tuple #[.int .i64 0, .bool false]))) := hide (.inr ⟨no_size h, rfl⟩)
  rcases (by omega : (s.size : Int) < 1 ∨ (1 ≤ (s.size : Int) ∧ 11 < (s.size : Int))) with h1 | ⟨h1, h2⟩
  all_goals
    clear h
    go_enter Tryd.func35, Tryd.ntmps35
    go_wp2_with fail
    go_ret2
    exact ⟨HT.out, Below.refl _ _⟩
set_option maxHeartbeats 4000000 in
theorem sTextNum_neg (s : ByteArray) (w : World) (h0 : 0 < s.size) (h11 : s.size ≤ 11) (x0 : Int) (hx0 : ((s[0]'h0).toNat : Int) = x0) (h45 : x0 = 45) : Calls Tryd.prog 35 #[.string s] w fun e w' => TN s e ∧ Below w.heap.size w w' := by
  have hs0 : (1 : Int) ≤ s.size := by omega
  have hs1 : (s.size : Int) ≤ 11 := by omega
  have hs2 : (0 : Int) < s.size := by omega
  subst h45
  obtain ⟨O, hO⟩ : ∃ O, valF 0 ((byt s).drop 1) = O := ⟨_, rfl⟩
  have hP : parse s = O.map (fun n => -n) := by
    have hb := byt_drop s 0 h0
    rw [List.drop_zero, hx0] at hb
    unfold parse
    rw [hb]
    simp only
    rw [if_pos trivial, hO]
  have HP := hide hP
  have HO := hide hO
  have HF : Hid ((∀ v : Int, -2147483648 ≤ v → v ≤ 2147483647 → s ≠ nt v) → TN s (.returned (.tuple #[.int .i64 0, .bool false]))) := hide fun h => .inr ⟨h, rfl⟩
  clear hP hO
  go_enter Tryd.func35, Tryd.ntmps35
  go_wp2_with fail
  go_loop [4, 5] (fun v i' => ∃ (i : Nat) (V : Int), i ≤ s.size ∧ i' = .int .i64 i ∧ v = .int .i64 V ∧ 0 ≤ V ∧ Hid (V < 10 ^ i) ∧ ((i = 0 ∧ V = 0) ∨ (1 ≤ i ∧ Hid (valF V ((byt s).drop i) = O)))) (fun _ i' => s.size - (intOf i').toNat)
  case atStart => exact ⟨0, 0, Nat.zero_le _, rfl, rfl, by omega, hide (by decide), .inl ⟨rfl, rfl⟩⟩
  case round =>
    obtain ⟨i, V, hi, rfl, rfl, V0, HB, hc⟩ := hrel
    rcases hc with ⟨rfl, rfl⟩ | ⟨hi1, HV⟩
    · go_wp2_with fail
      go_round
      case rel =>
        first
        | exact ⟨1, 0, by omega, by go_num, rfl, by omega, hide (by decide), .inr ⟨by omega, HO⟩⟩
        | exact ⟨1, by omega, by go_num, 0, rfl, by omega, hide (by decide), .inr ⟨by omega, HO⟩⟩
      case measure => simp [intOf]; omega
    have hib : ((i : Int) == 0) = false := by simp; omega
    by_cases hlt : i < s.size
    · have hi' : (i : Int) < s.size := by omega
      have hi0 : (0 : Int) ≤ i := by omega
      have hVb : V < 10000000000 := by have := HB.out; have := pow_le i (by omega); omega
      obtain ⟨y, hy⟩ : ∃ y : Int, ((s[i]'hlt).toNat : Int) = y := ⟨_, rfl⟩
      have hyb := byt_bd s y (by rw [← hy]; have := byt_drop s i hlt; exact List.mem_of_mem_drop (by rw [this]; simp))
      obtain ⟨y0, y1⟩ := hyb
      have hV := HV.out
      rw [byt_drop s i hlt, hy] at hV
      have HV2 := hide hV
      clear hV HV
      by_cases hz : y < 48
      · have HT := HF.out (no_none (by rw [HP.out, ← HV2.out, valF_bad (.inl hz)]; rfl))
        have HT2 := hide HT
        clear HT
        go_wp2_with fail
        all_goals go_ret2
        all_goals exact ⟨HT2.out, Below.refl _ _⟩
      · by_cases hz2 : 57 < y
        · have HT := HF.out (no_none (by rw [HP.out, ← HV2.out, valF_bad (.inr hz2)]; rfl))
          have HT2 := hide HT
          have hz' : 48 ≤ y := by omega
          clear HT hz
          go_wp2_with fail
          all_goals go_ret2
          all_goals exact ⟨HT2.out, Below.refl _ _⟩
        · have hz' : 48 ≤ y := by omega
          have hz2' : y ≤ 57 := by omega
          have hV := HV2.out
          rw [valF_ok hz' hz2'] at hV
          have HM := hide hV
          have HB2 := hide (pow_next HB.out hz2')
          have wz : IntKind.i64.wrap (V * 10 + (y - 48)) = V * 10 + (y - 48) := by rw [IntKind.wrap_i64]; omega
          clear hV HV2 hz hz2
          go_wp2_with fail
          all_goals go_round
          all_goals first
            | exact ⟨i + 1, V * 10 + (y - 48), by omega, by go_num, rfl, by omega, HB2, .inr ⟨by omega, HM⟩⟩
            | exact ⟨i + 1, by omega, by go_num, V * 10 + (y - 48), rfl, by omega, HB2, .inr ⟨by omega, HM⟩⟩
            | (simp [intOf]; omega)
    · obtain rfl : i = s.size := by omega
      have hO2 : O = some V := by
        rw [← HV.out, List.drop_of_length_le (by rw [byt_len]; exact Nat.le_refl _)]
        rfl
      subst hO2
      have hVb : V < 100000000000 := by have h1 := HB.out; have h2 : (10 : Int) ^ s.size ≤ 100000000000 := pow_le11 s.size h11; omega
      clear HV HB HO hlt hi
      have hPn : parse s = some (-V) := by rw [HP.out]; rfl
      have HPn := hide hPn
      clear hPn HP
      obtain ⟨n, hn⟩ : ∃ n : Int, -V = n := ⟨_, rfl⟩
      rw [hn] at HPn
      obtain ⟨u, hu⟩ : ∃ u, wrap32 n = u := ⟨_, rfl⟩
      have HW := hide (fun w => sWrap n w)
      rw [hu] at HW
      by_cases hr : -2147483648 ≤ n ∧ n ≤ 2147483647
      · have hun : u = n := by rw [← hu]; unfold wrap32; omega
        have HN := hide (fun w => sNumText n w)
        rw [hu, hun] at HN
        obtain ⟨X, hX⟩ : ∃ X, nt n = X := ⟨_, rfl⟩
        rw [hX] at HN
        have hub : (u == n) = true := by rw [hun]; simp
        have HUN := hide hun
        obtain ⟨r0, r1⟩ := hr
        by_cases hxs : X = s
        · have HT2 : Hid (TN s (.returned (.tuple #[.int .i64 n, .bool true]))) := hide (.inl ⟨n, r0, r1, by rw [hX, hxs], rfl⟩)
          have hvv : (X.toList == s.toList) = true := by rw [hxs]; simp
          clear hX hxs HPn HF hu hun
          go_wp2_with fail
          refine (HW.out _).mono ?_
          rintro e w1 ⟨rfl, rfl⟩
          go_wp2_with fail
          all_goals try exact absurd HUN.out (by assumption)
          refine (HN.out _).mono ?_
          rintro e w2 ⟨rfl, hb⟩
          go_wp2_with fail
          go_ret2
          exact ⟨HT2.out, hb⟩
        · have HT2 := hide (HF.out (no_bad HPn.out (.inr (by rw [hX]; exact hxs))))
          have hvv : (X.toList == s.toList) = false := by
            simp only [beq_eq_false_iff_ne, ne_eq, ByteArray.toList_eq]
            intro e
            exact hxs (ByteArray.ext (Array.toList_inj.1 e))
          clear hX hxs HPn HF hu hun
          go_wp2_with fail
          refine (HW.out _).mono ?_
          rintro e w1 ⟨rfl, rfl⟩
          go_wp2_with fail
          all_goals try exact absurd HUN.out (by assumption)
          refine (HN.out _).mono ?_
          rintro e w2 ⟨rfl, hb⟩
          go_wp2_with fail
          go_ret2
          exact ⟨HT2.out, hb⟩
      · have HT2 := hide (HF.out (no_bad HPn.out (.inl (by omega))))
        have hub : (u == n) = false := by
          simp only [beq_eq_false_iff_ne, ne_eq]
          rw [← hu]
          unfold wrap32
          omega
        have HNE := hide (show ¬ u = n by simpa using hub)
        clear HPn HF hu hr
        go_wp2_with fail
        refine (HW.out _).mono ?_
        rintro e w1 ⟨rfl, rfl⟩
        go_wp2_with fail
        all_goals try exact absurd (by assumption) HNE.out
        go_ret2
        exact ⟨HT2.out, Below.refl _ _⟩
set_option maxHeartbeats 4000000 in
theorem sTextNum_pos (s : ByteArray) (w : World) (h0 : 0 < s.size) (h11 : s.size ≤ 11) (x0 : Int) (hx0 : ((s[0]'h0).toNat : Int) = x0) (h45 : x0 ≠ 45) : Calls Tryd.prog 35 #[.string s] w fun e w' => TN s e ∧ Below w.heap.size w w' := by
  have hs0 : (1 : Int) ≤ s.size := by omega
  have hs1 : (s.size : Int) ≤ 11 := by omega
  have hs2 : (0 : Int) < s.size := by omega
  have hb45 : (x0 == 45) = false := by simpa using h45
  obtain ⟨O, hO⟩ : ∃ O, valF 0 ((byt s).drop 0) = O := ⟨_, rfl⟩
  have hP : parse s = O := by
    have hb := byt_drop s 0 h0
    rw [hx0] at hb
    generalize (byt s).drop (0 + 1) = r at hb
    rw [List.drop_zero] at hb hO
    unfold parse
    rw [← hO, hb]
    simp only
    rw [if_neg h45]
  have HP := hide hP
  have HO := hide hO
  have HF : Hid ((∀ v : Int, -2147483648 ≤ v → v ≤ 2147483647 → s ≠ nt v) → TN s (.returned (.tuple #[.int .i64 0, .bool false]))) := hide fun h => .inr ⟨h, rfl⟩
  clear hP hO
  go_enter Tryd.func35, Tryd.ntmps35
  go_wp2_with fail
  go_loop [4, 5] (fun v i' => ∃ (i : Nat) (V : Int), i ≤ s.size ∧ i' = .int .i64 i ∧ v = .int .i64 V ∧ 0 ≤ V ∧ Hid (V < 10 ^ i) ∧ Hid (valF V ((byt s).drop i) = O)) (fun _ i' => s.size - (intOf i').toNat)
  case atStart => exact ⟨0, 0, Nat.zero_le _, rfl, rfl, by omega, hide (by decide), HO⟩
  case round =>
    obtain ⟨i, V, hi, rfl, rfl, V0, HB, HV⟩ := hrel
    have hib : True := trivial
    by_cases hlt : i < s.size
    · have hi' : (i : Int) < s.size := by omega
      have hi0 : (0 : Int) ≤ i := by omega
      have hVb : V < 10000000000 := by have := HB.out; have := pow_le i (by omega); omega
      obtain ⟨y, hy⟩ : ∃ y : Int, ((s[i]'hlt).toNat : Int) = y := ⟨_, rfl⟩
      have hyb := byt_bd s y (by rw [← hy]; have := byt_drop s i hlt; exact List.mem_of_mem_drop (by rw [this]; simp))
      obtain ⟨y0, y1⟩ := hyb
      have hV := HV.out
      rw [byt_drop s i hlt, hy] at hV
      have HV2 := hide hV
      clear hV HV
      by_cases hz : y < 48
      · have HT := HF.out (no_none (by rw [HP.out, ← HV2.out, valF_bad (.inl hz)]))
        have HT2 := hide HT
        clear HT
        by_cases hi00 : i = 0
        · subst hi00
          have hyx : y = x0 := by rw [← hy, ← hx0]
          subst hyx
          go_wp2_with fail
          all_goals go_ret2
          all_goals exact ⟨HT2.out, Below.refl _ _⟩
        · have hib2 : ((i : Int) == 0) = false := by simp; omega
          go_wp2_with fail
          all_goals go_ret2
          all_goals exact ⟨HT2.out, Below.refl _ _⟩
      · by_cases hz2 : 57 < y
        · have HT := HF.out (no_none (by rw [HP.out, ← HV2.out, valF_bad (.inr hz2)]))
          have HT2 := hide HT
          have hz' : 48 ≤ y := by omega
          clear HT hz
          by_cases hi00 : i = 0
          · subst hi00
            have hyx : y = x0 := by rw [← hy, ← hx0]
            subst hyx
            go_wp2_with fail
            all_goals go_ret2
            all_goals exact ⟨HT2.out, Below.refl _ _⟩
          · have hib2 : ((i : Int) == 0) = false := by simp; omega
            go_wp2_with fail
            all_goals go_ret2
            all_goals exact ⟨HT2.out, Below.refl _ _⟩
        · have hz' : 48 ≤ y := by omega
          have hz2' : y ≤ 57 := by omega
          have hV := HV2.out
          rw [valF_ok hz' hz2'] at hV
          have HM := hide hV
          have HB2 := hide (pow_next HB.out hz2')
          have wz : IntKind.i64.wrap (V * 10 + (y - 48)) = V * 10 + (y - 48) := by rw [IntKind.wrap_i64]; omega
          clear hV HV2 hz hz2
          by_cases hi00 : i = 0
          · subst hi00
            have hyx : y = x0 := by rw [← hy, ← hx0]
            subst hyx
            go_wp2_with fail
            all_goals go_round
            all_goals first
              | exact ⟨0 + 1, V * 10 + (y - 48), by omega, by go_num, rfl, by omega, HB2, HM⟩
              | exact ⟨0 + 1, by omega, by go_num, V * 10 + (y - 48), rfl, by omega, HB2, HM⟩
              | (simp [intOf]; omega)
          · have hib2 : ((i : Int) == 0) = false := by simp; omega
            go_wp2_with fail
            all_goals go_round
            all_goals first
              | exact ⟨i + 1, V * 10 + (y - 48), by omega, by go_num, rfl, by omega, HB2, HM⟩
              | exact ⟨i + 1, by omega, by go_num, V * 10 + (y - 48), rfl, by omega, HB2, HM⟩
              | (simp [intOf]; omega)
    · obtain rfl : i = s.size := by omega
      have hO2 : O = some V := by
        rw [← HV.out, List.drop_of_length_le (by rw [byt_len]; exact Nat.le_refl _)]
        rfl
      subst hO2
      have hVb : V < 100000000000 := by have h1 := HB.out; have h2 : (10 : Int) ^ s.size ≤ 100000000000 := pow_le11 s.size h11; omega
      clear HV HB HO hlt hi
      have hPn : parse s = some (V) := HP.out
      have HPn := hide hPn
      clear hPn HP
      obtain ⟨n, hn⟩ : ∃ n : Int, V = n := ⟨_, rfl⟩
      rw [hn] at HPn
      obtain ⟨u, hu⟩ : ∃ u, wrap32 n = u := ⟨_, rfl⟩
      have HW := hide (fun w => sWrap n w)
      rw [hu] at HW
      by_cases hr : -2147483648 ≤ n ∧ n ≤ 2147483647
      · have hun : u = n := by rw [← hu]; unfold wrap32; omega
        have HN := hide (fun w => sNumText n w)
        rw [hu, hun] at HN
        obtain ⟨X, hX⟩ : ∃ X, nt n = X := ⟨_, rfl⟩
        rw [hX] at HN
        have hub : (u == n) = true := by rw [hun]; simp
        have HUN := hide hun
        obtain ⟨r0, r1⟩ := hr
        by_cases hxs : X = s
        · have HT2 : Hid (TN s (.returned (.tuple #[.int .i64 n, .bool true]))) := hide (.inl ⟨n, r0, r1, by rw [hX, hxs], rfl⟩)
          have hvv : (X.toList == s.toList) = true := by rw [hxs]; simp
          clear hX hxs HPn HF hu hun
          go_wp2_with fail
          refine (HW.out _).mono ?_
          rintro e w1 ⟨rfl, rfl⟩
          go_wp2_with fail
          all_goals try exact absurd HUN.out (by assumption)
          refine (HN.out _).mono ?_
          rintro e w2 ⟨rfl, hb⟩
          go_wp2_with fail
          go_ret2
          exact ⟨HT2.out, hb⟩
        · have HT2 := hide (HF.out (no_bad HPn.out (.inr (by rw [hX]; exact hxs))))
          have hvv : (X.toList == s.toList) = false := by
            simp only [beq_eq_false_iff_ne, ne_eq, ByteArray.toList_eq]
            intro e
            exact hxs (ByteArray.ext (Array.toList_inj.1 e))
          clear hX hxs HPn HF hu hun
          go_wp2_with fail
          refine (HW.out _).mono ?_
          rintro e w1 ⟨rfl, rfl⟩
          go_wp2_with fail
          all_goals try exact absurd HUN.out (by assumption)
          refine (HN.out _).mono ?_
          rintro e w2 ⟨rfl, hb⟩
          go_wp2_with fail
          go_ret2
          exact ⟨HT2.out, hb⟩
      · have HT2 := hide (HF.out (no_bad HPn.out (.inl (by omega))))
        have hub : (u == n) = false := by
          simp only [beq_eq_false_iff_ne, ne_eq]
          rw [← hu]
          unfold wrap32
          omega
        have HNE := hide (show ¬ u = n by simpa using hub)
        clear HPn HF hu hr
        go_wp2_with fail
        refine (HW.out _).mono ?_
        rintro e w1 ⟨rfl, rfl⟩
        go_wp2_with fail
        all_goals try exact absurd (by assumption) HNE.out
        go_ret2
        exact ⟨HT2.out, Below.refl _ _⟩
theorem sTextNum (s : ByteArray) (w : World) (hm : (s.size : Int) ≤ 1048576) : Calls Tryd.prog 35 #[.string s] w fun e w' => TN s e ∧ Below w.heap.size w w' := by
  by_cases h : s.size < 1 ∨ 11 < s.size
  · exact sTextNum_size s w hm h
  · have h0 : 0 < s.size := by omega
    by_cases h45 : ((s[0]'h0).toNat : Int) = 45
    · exact sTextNum_neg s w h0 (by omega) _ rfl h45
    · exact sTextNum_pos s w h0 (by omega) _ rfl h45
end Go.Proofs.YtiinkfejdnfonaaDoor.Tn
