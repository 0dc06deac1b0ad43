/- The sections of a module's bytes, in the program and in the reference: a contract each. -/
import Derived.Test.YtflecejioaokmaaOpI
import Derived.Test.YtflecejioaokmaaGetC
import Derived.Test.YtflecejioaokmaaPutC
import Derived.Test.YtflecejioaokmaaSecN
import Derived.Laws.BytesArg
import Derived.Deep.RegionHeld
namespace Go.Proofs.Ytflecejioaokmaa.Sec
open Go.RowKit Go.Proofs.Ytflecejioaokmaa.Num Go.Proofs.Ytflecejioaokmaa.NumC Go.Proofs.Ytflecejioaokmaa.Mem Go.Proofs.Ytflecejioaokmaa.Leb Go.Proofs.Ytflecejioaokmaa.Ops
set_option linter.unusedVariables false

theorem conv8 (w : World) (A : Option Addr) (n c : Nat) (xs : List Int) (h : Rd w w.heap.size 1 A n (by8 xs)) (hn : 0 < n) :
    (convert 22 9 (.slice A n c)).run Try.prog w = .ok (.string (strOfNums xs)) w := by
  obtain ⟨b, off, rfl, hb, hcell⟩ := h.2 hn
  have hl : xs.length = n := by have := h.1; simp only [by8, List.length_map] at this; omega
  refine run_convert_bytes_arg w _ _ Try.underlying22 Try.underlying5 b off n c xs hl (fun i hi => ?_) _ Try.underlying9
  have := hcell i _ (by8_get (by rw [hl]; exact hi))
  rw [this]
  congr 2
  simp [List.getD, List.getElem?_eq_getElem (show i < xs.length by rw [hl]; exact hi)]
theorem back {xs : List Int} (hx : ∀ x ∈ xs, 0 ≤ x ∧ x ≤ 255) : (xs.map fun n => UInt8.ofNat n.toNat).map (fun b => (b.toNat : Int)) = xs := by
  rw [List.map_map]
  conv => rhs; rw [← List.map_id xs]
  refine List.map_congr_left fun x hm => ?_
  have := hx x hm
  simp only [Function.comp_apply, UInt8.toNat_ofNat', id_eq]
  omega
/-- the texts of two rows of bytes are alike just where the rows are -/
theorem str_inj {xs ys : List Int} (hx : ∀ x ∈ xs, 0 ≤ x ∧ x ≤ 255) (hy : ∀ x ∈ ys, 0 ≤ x ∧ x ≤ 255) : ((strOfNums xs).toList == (strOfNums ys).toList) = decide (xs = ys) := by
  by_cases h : xs = ys
  · subst h
    rw [decide_eq_true rfl]
    simp
  · rw [decide_eq_false h, beq_eq_false_iff_ne, ByteArray.toList_eq, ByteArray.toList_eq, strOfNums_data, strOfNums_data]
    intro e
    apply h
    rw [← back hx, ← back hy, e]
theorem bytesEq_c (A B : Option Addr) (n c d : Nat) (xs ys : List Int) (w : World) (ha : Rd w w.heap.size 1 A n (by8 xs)) (hb : Rd w w.heap.size 1 B n (by8 ys)) (hn : 0 < n) (hx : ∀ x ∈ xs, 0 ≤ x ∧ x ≤ 255) (hy : ∀ x ∈ ys, 0 ≤ x ∧ x ≤ 255) :
    Calls Try.prog 78 #[.slice A n c, .slice B n d] w fun e w' => e = .returned (.bool (decide (xs = ys))) ∧ Below w.heap.size w w' := by
  have k1 := conv8 w A n c xs ha hn
  have k2 := conv8 w B n d ys hb hn
  have k3 := str_inj hx hy
  obtain ⟨S, hS⟩ : ∃ S, strOfNums xs = S := ⟨_, rfl⟩
  obtain ⟨T, hT⟩ : ∃ T, strOfNums ys = T := ⟨_, rfl⟩
  rw [hS] at k1 k3
  rw [hT] at k2 k3
  obtain ⟨R, hR⟩ : ∃ R, decide (xs = ys) = R := ⟨_, rfl⟩
  rw [hR] at k3 ⊢
  clear ha hb hx hy hS hT hR
  go_enter Try.func78, Try.ntmps78
  go_wp2_with fail
  go_ret
  exact ⟨rfl, Below.refl _ _⟩
theorem rd_take {w : World} {B n m : Nat} {A : Option Addr} {bs : List Int} (h : Rd w B 1 A n (by8 bs)) (hm : m ≤ n) : Rd w B 1 A m (by8 (bs.take m)) := by
  have hl : bs.length = n := by have := h.1; simp only [by8, List.length_map] at this; omega
  refine ⟨by simp [by8]; omega, fun h0 => ?_⟩
  obtain ⟨b, off, rfl, hb, hc⟩ := h.2 (by omega)
  refine ⟨b, off, rfl, hb, fun j u hu => hc j u ?_⟩
  simp only [by8, List.map_take, List.getElem?_take] at hu
  split at hu
  · exact hu
  · cases hu
theorem header_c (w : World) : Calls Try.prog 79 #[] w (Fresh 5 1 8 (by8 head8) w) := by
  go_enter Try.func79, Try.ntmps79
  go_wp2_with fail
  go_ret
  exact ⟨_, _, rfl, World.ownsRow_lit w _ 8 (Nat.le_refl _) (by decide) rfl, (Below.refl _ _).alloc (Nat.le_refl _) _⟩
theorem l04Head_c (w : World) : Calls Try.prog 77 #[] w (Fresh 5 1 8 (by8 head8) w) := by
  go_enter Try.func77, Try.ntmps77
  go_wp2_with fail
  go_ret
  exact ⟨_, _, rfl, World.ownsRow_lit w _ 8 (Nat.le_refl _) (by decide) rfl, (Below.refl _ _).alloc (Nat.le_refl _) _⟩
/-- a number is in the list of the eight -/
theorem contains8 (A : Option Addr) (c : Nat) (v : Int) (w : World) (hr : Rd w w.heap.size 1 A 8 (in64 ids8)) :
    Calls Try.prog 59 #[.slice A 8 c, .int .i64 v] w fun e w' => e = .returned (.bool (decide (v ∈ ids8))) ∧ Below w.heap.size w w' := by
  have HC := hide (index_int A 8 c ids8 v w hr (by omega))
  clear hr
  go_enter Try.func59, Try.ntmps59
  go_wp2_with fail
  refine HC.out.mono ?_
  rintro e w1 ⟨r, rfl, hf, hb⟩
  go_wp2_with fail
  go_ret
  refine ⟨?_, hb⟩
  have hk : decide (v ∈ ids8) = decide (r ≥ 0) := by
    rcases hf with ⟨rfl, hn⟩ | ⟨k, rfl, hk, _⟩
    · rw [decide_eq_false hn]; rfl
    · rw [decide_eq_true (List.mem_of_getElem? hk)]
      symm
      exact decide_eq_true (by omega)
  rw [hk]
  rfl
/-- parts: a number and a row -/
def partC : List (Int × Value) → List Value
  | [] => []
  | p :: l => .int .i64 p.1 :: p.2 :: partC l
theorem partC_len : ∀ l : List (Int × Value), (partC l).length = l.length * 2
  | [] => rfl
  | p :: l => by simp [partC, partC_len l]; omega
theorem partC_app : ∀ l m : List (Int × Value), partC (l ++ m) = partC l ++ partC m
  | [], m => rfl
  | p :: l, m => by simp [partC, partC_app l m]
theorem partC_get : ∀ (l : List (Int × Value)) (k : Nat) (h : k < l.length), (partC l)[k * 2]? = some (.int .i64 l[k].1) ∧ (partC l)[k * 2 + 1]? = some l[k].2
  | [], k, h => by simp at h
  | p :: l, 0, h => by simp [partC]
  | p :: l, k + 1, h => by
    have := partC_get l k (by simpa using h)
    rw [Nat.succ_mul]
    simpa [partC, Nat.add_assoc] using this
theorem lit8i (w : World) : Ow (w.alloc (.cells #[.int .i64 1, .int .i64 2, .int .i64 3, .int .i64 5, .int .i64 6, .int .i64 7, .int .i64 10, .int .i64 11] 3)) w.heap.size 3 1 (some ⟨w.heap.size, 0, none⟩) 8 8 (in64 ids8) := World.ownsRow_lit w _ 8 (Nat.le_refl _) (by decide) rfl
theorem EP : Elem Try.prog 74 78 (.agg #[.int .i64 0, .slice none 0 0]) 2 32 := Elem.mk_ Try.underlying74 (by kernel_rfl) rfl (by omega) (by omega)
theorem oneP (x : Int) (A : Option Addr) (n c : Nat) : ∀ u ∈ (#[Value.int .i64 x, Value.slice A n c] : Array Value).toList, u.oneCell' = true := by
  intro u hu
  simp only [List.mem_cons, List.not_mem_nil, or_false] at hu
  rcases hu with rfl | rfl <;> rfl
theorem parts_step {w' : World} {base e q d : Nat} {B : Option Addr} (ps : List (Int × Value)) (x : Int) (v : Value) (h : Ow w' base e 2 B (q + 1) d (partC ps ++ (#[Value.int .i64 x, v] : Array Value).toList)) (hq : ps.length = q) : Ow w' base e 2 B (ps ++ [(x, v)]).length d (partC (ps ++ [(x, v)])) := by
  rw [partC_app, List.length_append, hq]
  exact h
/-- the second of each is a slice -/
def Sl (ps : List (Int × Value)) : Prop := ∀ p ∈ ps, ∃ A n c, p.2 = .slice A n c
theorem sl_step {ps : List (Int × Value)} (h : Sl ps) (x : Int) (A : Option Addr) (n c : Nat) : Sl (ps ++ [(x, .slice A n c)]) := by
  intro p hp
  rcases List.mem_append.1 hp with hp | hp
  · exact h p hp
  · obtain rfl := List.mem_singleton.1 hp
    exact ⟨_, _, _, rfl⟩
/-- what split hands back -/
def Parts (bs : List Int) (w : World) (e : Ending) (w' : World) : Prop :=
  Below w.heap.size w w' ∧ ((sections bs = none ∧ ∃ q : Int, q ≠ 0 ∧ e = .returned (.tuple #[.slice none 0 0, .int .i64 q])) ∨
    (∃ (ps : List (Int × Value)) (A : Option Addr) (c : Nat), sections bs = some (ps.map (·.1)) ∧ Sl ps ∧ ps.length ≤ 11 ∧ e = .returned (.tuple #[.slice A ps.length c, .int .i64 0]) ∧ Ow w' w.heap.size 78 2 A ps.length c (partC ps)))
set_option maxRecDepth 100000 in
set_option maxHeartbeats 4000000 in
theorem split_c (A : Option Addr) (n c : Nat) (bs : List Int) (w : World) (hr : Rd w w.heap.size 1 A n (by8 bs)) (hn : n ≤ 1048576) (hc : n ≤ c) (hx : ∀ x ∈ bs, 0 ≤ x ∧ x ≤ 255) :
    Calls Try.prog 52 #[.slice A n c] w (Parts bs w) := by
  have hn' : (n : Int) ≤ 1048576 := by omega
  have hcc : (n : Int) ≤ c := by omega
  have HR := hide hr
  have HX := hide hx
  have HL := hide (show bs.length = n by have := hr.1; simp only [by8, List.length_map] at this; omega)
  clear hr hn hx
  by_cases h8 : (n : Int) < 8
  · have hS : sections bs = none := by unfold sections; rw [if_pos (.inl (by have := HL.out; omega))]
    have HS := hide hS
    clear hS
    have h8n : (0 : Int) ≤ n := by omega
    go_enter Try.func52, Try.ntmps52
    go_wp2_with fail
    go_quiet (fail)
    go_wp2_with fail
    go_ret2
    exact ⟨bel_drewN (Below.refl _ _) _, .inl ⟨HS.out, 1, by decide, rfl⟩⟩
  · have h8' : (8 : Int) ≤ n := by omega
    have h8c : (8 : Int) ≤ c := by omega
    have hd8 : decide ((n : Int) < 8) = false := decide_eq_false (by omega)
    clear h8
    obtain ⟨b, off, rfl, hb, hcl⟩ := HR.out.2 (by omega)
    have HCL := hide hcl
    clear hcl
    obtain ⟨E, hE⟩ : ∃ E : Bool, decide (bs.take 8 = head8) = E := ⟨_, rfl⟩
    have HE := hide hE
    have HR8 := hide (rd_take HR.out (show 8 ≤ n by omega))
    have HX8 := hide (fun x (h : x ∈ bs.take 8) => HX.out x (List.mem_of_mem_take h))
    have hh8 : ∀ x ∈ head8, 0 ≤ x ∧ x ≤ 255 := by decide
    clear hE
    go_enter Try.func52, Try.ntmps52
    go_wp2_with fail
    go_region_held (fun _ => True) (trivial) (first
      | (go_at_call 79
         refine (header_c _).mono ?_
         rintro e w1 ⟨A1, c1, rfl, ho1, hb1⟩
         have HO1 := hide ho1.rd
         have HB1 := hide (bel_step (bel_drewN (Below.refl w.heap.size w) 1) hb1 (Nat.le_refl _))
         clear ho1 hb1)
      | (go_at_call 78
         have hq := HB1
         refine (bytesEq_c _ _ 8 _ _ _ _ w1 (HR8.out.bel HB1.out) HO1.out (by omega) HX8.out hh8).mono ?_
         rintro e w2 ⟨he, hb2⟩
         rw [HE.out] at he
         subst he
         have HB2 := hide (bel_step HB1.out hb2 HB1.out.size)
         clear hb2))
    clear HO1 HR8 HX8 hh8
    cases E
    · have hS : sections bs = none := by
        unfold sections
        rw [if_pos (.inr (of_decide_eq_false HE.out))]
      have HS := hide hS
      clear hS HE
      go_wp2_with fail
      go_ret2
      exact ⟨HB2.out, .inl ⟨HS.out, 1, by decide, rfl⟩⟩
    · have hS : sections bs = cutF (bs.length + 1) bs 8 0 [] := by
        unfold sections
        rw [if_neg (by
          intro h
          rcases h with h | h
          · have := HL.out; omega
          · exact h (of_decide_eq_true HE.out))]
      have HS := hide hS
      clear hS HE
      go_wp2_with fail
      go_loopw [4, 5, 6] (fun o l i wr => ∃ (a : Nat) (last : Int) (ps : List (Int × Value)) (B : Option Addr) (cb : Nat), i = .int .i64 a ∧ l = .int .i64 last ∧ o = .slice B ps.length cb ∧ a ≤ n ∧ 8 ≤ a ∧ (ps.length : Int) ≤ last ∧ last ≤ 11 ∧ Hid (∃ f, bs.length < a + f ∧ sections bs = cutF f bs a last (ps.map (·.1))) ∧ Hid (Ow wr w.heap.size 78 2 B ps.length cb (partC ps)) ∧ Hid (Sl ps) ∧ Hid (Below w.heap.size w wr)) (fun _ _ i _ => n - (intOf i).toNat)
      case atStart => exact ⟨8, 0, [], none, 0, rfl, rfl, rfl, by omega, by omega, by simp, by omega, hide ⟨bs.length + 1, by omega, HS.out⟩, hide ⟨rfl, .inl ⟨rfl, rfl⟩⟩, hide (fun p h => by cases h), hide HB2.out⟩
      case round =>
        obtain ⟨a, last, ps, B, cb, rfl, rfl, rfl, han, ha8, hpl, hl11, HF, HO, HSL, HB⟩ := hrel
        obtain ⟨q, hq⟩ : ∃ q, ps.length = q := ⟨_, rfl⟩
        have HQ := hide hq
        rw [hq] at HO hpl ⊢
        clear hq
        by_cases hlt : a < n
        · obtain ⟨x, hx⟩ : ∃ x, bs.getD a 0 = x := ⟨_, rfl⟩
          obtain ⟨p, r, t, hg⟩ : ∃ p r t, getU bs ((a : Int) + 1) = (p, r, t) := ⟨_, _, _, rfl⟩
          have hC := GetC.iGetU (some ⟨b, off, none⟩) n c bs ((a : Int) + 1) wr (HR.out.bel HB.out) HX.out (by omega)
          rw [hg] at hC
          unfold GetC.Gives at hC
          have HC := hide hC
          clear hC
          have hla : a < bs.length := by have := HL.out; omega
          have hxe : bs[a]'hla = x := by rw [← hx]; simp [List.getD, List.getElem?_eq_getElem hla]
          have hx0 : 0 ≤ x ∧ x ≤ 255 := by rw [← hxe]; exact HX.out _ (List.getElem_mem _)
          obtain ⟨hx00, hx01⟩ := hx0
          have hcell : wr.cell? ⟨b, off + a, none⟩ = some (.int .u8 x) := (HB.out.cell (p := ⟨b, off + a, none⟩) hb).trans (HCL.out a _ (by rw [by8_get hla, hxe]))
          have HXE := hide hx
          have HG := hide hg
          clear hx hg hxe hla
          have hwx : IntKind.i64.wrap x = x := by rw [IntKind.wrap_i64]; omega
          have hwa : IntKind.i64.wrap ((a : Int) + 1) = (a : Int) + 1 := by rw [IntKind.wrap_i64]; omega
          have ha0 : (0 : Int) ≤ a := by omega
          have han1 : (a : Int) < n := by omega
          go_wp2_with (go_at_call 10; refine HC.out.mono ?_; rintro e w' ⟨rfl, rfl⟩)
          have HC8 := hide (contains8 (some ⟨wr.heap.size, 0, none⟩) 8 x _ (lit8i wr).rd)
          refine HC8.out.mono ?_
          clear HC8
          rintro e w2 ⟨rfl, hb2⟩
          have HB3 := hide (bel_step (HB.out.alloc HB.out.size _) hb2 (by have := HB.out.size; simp; omega))
          have HO3 := hide (Ow.below (World.ownsRow.alloc HO.out _) hb2 (Nat.le_refl _))
          clear hb2 HO hcell
          by_cases hbad : x ∉ ids8 ∨ x ≤ last ∨ t = false ∨ (n : Int) - r < p
          · have hS2 : sections bs = none := by
              obtain ⟨f, h1, h2⟩ := HF.out
              obtain ⟨f', rfl⟩ : ∃ f', f = f' + 1 := ⟨f - 1, by have := HL.out; omega⟩
              rw [h2, cut_bad (by have := HL.out; omega) HXE.out HG.out (by rw [HL.out]; exact hbad)]
            have HS2 := hide hS2
            clear hS2 HF HS
            obtain ⟨R, hR⟩ : ∃ R, decide (x ∈ ids8) = R := ⟨_, rfl⟩
            rw [hR]
            cases R
            · clear hbad hR
              go_wp2_with fail
              go_ret2
              exact ⟨HB3.out, .inl ⟨HS2.out, 2, by decide, rfl⟩⟩
            · have hin := of_decide_eq_true hR
              clear hR
              by_cases h1 : x ≤ last
              · clear hbad
                go_wp2_with fail
                go_ret2
                exact ⟨HB3.out, .inl ⟨HS2.out, 2, by decide, rfl⟩⟩
              · cases t
                · clear hbad
                  go_wp2_with fail
                  go_ret2
                  exact ⟨HB3.out, .inl ⟨HS2.out, 2, by decide, rfl⟩⟩
                · obtain ⟨p0, p1, _, r0, r1, _⟩ := getU_true HX.out HG.out
                  have r2 : r ≤ n := by have := HL.out; omega
                  have h3 : (n : Int) - r < p := by
                    rcases hbad with h | h | h | h
                    · exact absurd hin h
                    · exact absurd h h1
                    · cases h
                    · exact h
                  have hwn : IntKind.i64.wrap ((n : Int) - r) = n - r := by rw [IntKind.wrap_i64]; omega
                  clear hbad
                  go_wp2_with fail
                  go_ret2
                  exact ⟨HB3.out, .inl ⟨HS2.out, 2, by decide, rfl⟩⟩
          · have hin : x ∈ ids8 := Classical.not_not.1 fun h1 => hbad (.inl h1)
            have hgt : last < x := by
              rcases Int.lt_or_le last x with h2 | h2
              · exact h2
              · exact absurd (.inr (.inl h2)) hbad
            have ht : t = true := by
              cases t
              · exact absurd (.inr (.inr (.inl rfl))) hbad
              · rfl
            subst ht
            have hle : p ≤ (n : Int) - r := by
              rcases Int.lt_or_le ((n : Int) - r) p with h3 | h3
              · exact absurd (.inr (.inr (.inr h3))) hbad
              · exact h3
            clear hbad
            obtain ⟨p0, p1, _, r0, r1, _⟩ := getU_true HX.out HG.out
            obtain ⟨x1, x11⟩ := ids_le hin
            have r2 : r ≤ n := by have := HL.out; omega
            obtain ⟨pn, rfl⟩ : ∃ pn : Nat, p = pn := ⟨p.toNat, by omega⟩
            obtain ⟨rn, rfl⟩ : ∃ rn : Nat, r = rn := ⟨r.toNat, by omega⟩
            have HF2 := hide (show ∃ f, bs.length < (rn + pn) + f ∧ sections bs = cutF f bs (rn + pn) x (ps.map (·.1) ++ [x]) by
              obtain ⟨f, h1, h2⟩ := HF.out
              obtain ⟨f', rfl⟩ : ∃ f', f = f' + 1 := ⟨f - 1, by have := HL.out; omega⟩
              refine ⟨f', by omega, ?_⟩
              rw [h2, cut_more (by have := HL.out; omega) HXE.out HG.out hin hgt (by rw [HL.out]; exact hle)]
              congr 1)
            have hD : decide (x ∈ ids8) = true := decide_eq_true hin
            rw [hD]
            have hwn : IntKind.i64.wrap ((n : Int) - rn) = n - rn := by rw [IntKind.wrap_i64]; omega
            have hwp : IntKind.i64.wrap ((rn : Int) + pn) = (rn : Int) + pn := by rw [IntKind.wrap_i64]; omega
            have hpr : (rn : Int) + pn ≤ n := by omega
            have hng : ¬ ((n : Int) - rn < pn) := by omega
            have hnl : ¬ (x ≤ last) := by omega
            have hq11 : q ≤ 11 := by omega
            have hrn : (a : Int) + 1 < rn := by omega
            clear hD hin HXE HG HF HS hle r1 p1
            by_cases hcq : rn = c
            · obtain rfl : pn = 0 := by omega
              go_wp2_with (at_builtin; refine app1 rfl _ _ rfl rfl rfl EP HO3.out rfl (oneP _ _ _ _) (by omega) HB3.out.size ?_; intro B4 d4 w4 ho4 hg4 hl4)
              have HO4 := hide (parts_step _ _ _ ho4 HQ.out)
              have HB4 := hide (bel_grown HB3.out hg4 HB3.out.size (fun g hg => (HO3.out.blk_lt g hg).1))
              clear ho4 hg4 hl4 HO3 HB3
              go_roundw
              · exact ⟨_, _, _, _, _, ⟨c, rfl, x, rfl, _, B4, d4, rfl, by omega, by omega, by have := HQ.out; simp; omega, x11, hide (by have := HF2.out; rw [hcq] at this; simpa using this), HO4, hide (sl_step HSL.out _ _ _ _), HB4⟩, rfl, rfl, by have := HQ.out; simp [this], rfl, rfl⟩
              · simp only [intOf]; omega
            · replace hcq : ¬ c = rn := fun h => hcq h.symm
              have hcq' : ¬ (c - rn = 0) := by omega
              go_wp2_with (at_builtin; refine app1 rfl _ _ rfl rfl rfl EP HO3.out rfl (oneP _ _ _ _) (by omega) HB3.out.size ?_; intro B4 d4 w4 ho4 hg4 hl4)
              have HO4 := hide (parts_step _ _ _ ho4 HQ.out)
              have HB4 := hide (bel_grown HB3.out hg4 HB3.out.size (fun g hg => (HO3.out.blk_lt g hg).1))
              clear ho4 hg4 hl4 HO3 HB3
              go_roundw
              · exact ⟨_, _, _, _, _, ⟨rn + pn, rfl, x, rfl, _, B4, d4, rfl, by omega, by omega, by have := HQ.out; simp; omega, x11, hide (by have := HF2.out; simpa using this), HO4, hide (sl_step HSL.out _ _ _ _), HB4⟩, rfl, rfl, by have := HQ.out; simp [this], rfl, by simp⟩
              · simp only [intOf]; omega
        · have hge : (n : Int) ≤ a := by omega
          have hS2 : sections bs = some (ps.map (·.1)) := by
            obtain ⟨f, h1, h2⟩ := HF.out
            obtain ⟨f', rfl⟩ : ∃ f', f = f' + 1 := ⟨f - 1, by have := HL.out; omega⟩
            rw [h2, cut_end (by have := HL.out; omega)]
          have HS2 := hide hS2
          clear hS2 HS HF
          have hq11 : q ≤ 11 := by omega
          clear hpl hl11
          have hn0 : decide ((a : Int) < n) = false := decide_eq_false (by omega)
          go_wp2_with fail
          go_ret2
          exact ⟨HB.out, .inr ⟨ps, B, cb, HS2.out, HSL.out, by have := HQ.out; omega, by rw [HQ.out]; rfl, by rw [HQ.out]; exact HO.out⟩⟩
end Go.Proofs.Ytflecejioaokmaa.Sec
