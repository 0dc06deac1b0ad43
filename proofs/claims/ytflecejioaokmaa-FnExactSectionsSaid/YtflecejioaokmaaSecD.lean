/- The reference's cutting of a module's bytes into sections: its contract. -/
import Derived.Test.YtflecejioaokmaaSecC
namespace Go.Proofs.Ytflecejioaokmaa.Sec
open Go.RowKit Go.Proofs.Ytflecejioaokmaa.Num Go.Proofs.Ytflecejioaokmaa.NumC Go.Proofs.Ytflecejioaokmaa.Mem Go.Proofs.Ytflecejioaokmaa.Leb Go.Proofs.Ytflecejioaokmaa.Ops
set_option linter.unusedVariables false
theorem ER : Elem Try.prog 71 95 (.agg #[.slice none 0 0, .int .i64 0, .bool false]) 3 40 := Elem.mk_ Try.underlying71 (by kernel_rfl) rfl (by omega) (by omega)
theorem oneR (A : Option Addr) (n c : Nat) (x : Int) (t : Bool) : ∀ u ∈ (#[Value.slice A n c, Value.int .i64 x, Value.bool t] : Array Value).toList, u.oneCell' = true := by
  intro u hu
  simp only [List.mem_cons, List.not_mem_nil, or_false] at hu
  rcases hu with rfl | rfl | rfl <;> rfl
theorem oneI (x : Int) : ∀ u ∈ (#[Value.int .i64 x] : Array Value).toList, u.oneCell' = true := by
  intro u hu
  simp only [List.mem_cons, List.not_mem_nil, or_false] at hu
  rcases hu with rfl
  rfl
theorem own_emp (w : World) (e size : Nat) : Ow (w.alloc (.cells #[] e)) w.heap.size e size (some ⟨w.heap.size, 0, none⟩) 0 0 [] := World.ownsRow_made w #[] 0 (Nat.le_refl _) (Nat.zero_le _) (by simp)
theorem ne_step {B B' R : Option Addr} {S : Nat} (h : blk B ≠ blk R) (hB : blk B' = blk B ∨ ∃ g, blk B' = some g ∧ S ≤ g) (hR : ∀ g, blk R = some g → g < S) : blk B' ≠ blk R := by
  rcases hB with hB | ⟨g, hg, hs⟩
  · rw [hB]
    exact h
  · intro e
    have := hR g (by rw [← e, hg])
    omega
theorem in64_snoc {w : World} {base e size n c : Nat} {A : Option Addr} {L : List Int} {x : Int} (h : Ow w base e size A n c (in64 L ++ (#[Value.int .i64 x] : Array Value).toList)) : Ow w base e size A n c (in64 (L ++ [x])) := by
  simpa [in64] using h
/-- what the reference's cutting hands back -/
def CutR (bs : List Int) (w : World) (e : Ending) (w' : World) : Prop :=
  Below w.heap.size w w' ∧ ((sections bs = none ∧ ∃ q : Int, q ≠ 0 ∧ e = .returned (.tuple #[.slice none 0 0, .slice none 0 0, .int .i64 q])) ∨
    (∃ (l : List Int) (A B : Option Addr) (N c d : Nat), sections bs = some l ∧ l.length = N ∧ N ≤ 11 ∧ e = .returned (.tuple #[.slice A N c, .slice B N d, .int .i64 0]) ∧ Ow w' w.heap.size 3 1 A N c (in64 l)))
set_option maxRecDepth 100000 in
set_option maxHeartbeats 40000000 in
theorem l04Cut_c (A : Option Addr) (n c : Nat) (bs : List Int) (w : World) (hr : Rd w w.heap.size 1 A n (by8 bs)) (hn : n ≤ 1048576) (hc : n ≤ c) (hx : ∀ x ∈ bs, 0 ≤ x ∧ x ≤ 255) :
    Calls Try.prog 51 #[.slice A n c] w (CutR bs w) := by
  have hn' : (n : Int) ≤ 1048576 := by omega
  have hcc : (n : Int) ≤ c := by omega
  have HR := hide hr
  have HX := hide hx
  have HL := hide (show bs.length = n by have := hr.1; simp only [by8, List.length_map] at this; omega)
  clear hr hn hx
  by_cases h8 : (n : Int) < 8
  · have hS : sections bs = none := by unfold sections; rw [if_pos (.inl (by have := HL.out; omega))]
    have HS := hide hS
    clear hS
    have h8n : (0 : Int) ≤ n := by omega
    go_enter Try.func51, Try.ntmps51
    go_wp2_with fail
    go_quiet (fail)
    go_wp2_with fail
    go_ret3
    exact ⟨bel_drewN (((Below.refl _ _).alloc (Nat.le_refl _) _).alloc (by simp) _) _, .inl ⟨HS.out, 1, by decide, rfl⟩⟩
  · have h8' : (8 : Int) ≤ n := by omega
    have h8c : (8 : Int) ≤ c := by omega
    have hd8 : decide ((n : Int) < 8) = false := decide_eq_false (by omega)
    clear h8
    obtain ⟨b, off, rfl, hb, hcl⟩ := HR.out.2 (by omega)
    have HCL := hide hcl
    clear hcl
    have HR8 := hide (rd_take HR.out (show 8 ≤ n by omega))
    have HX8 := hide (fun x (h : x ∈ bs.take 8) => HX.out x (List.mem_of_mem_take h))
    have hh8 : ∀ x ∈ head8, 0 ≤ x ∧ x ≤ 255 := by decide
    obtain ⟨W0, hW0⟩ : ∃ W0, (w.alloc (.cells #[] 3)).alloc (.cells #[] 95) = W0 := ⟨_, rfl⟩
    have HB0 := hide (show Below w.heap.size w W0 by rw [← hW0]; exact ((Below.refl _ _).alloc (Nat.le_refl _) _).alloc (by simp) _)
    have HOI := hide (show Ow W0 w.heap.size 3 1 (some ⟨w.heap.size, 0, none⟩) 0 0 [] by rw [← hW0]; exact World.ownsRow.alloc (own_emp w 3 1) _)
    have HOR := hide (show Ow W0 w.heap.size 95 3 (some ⟨w.heap.size + 1, 0, none⟩) 0 0 [] by
      rw [← hW0]
      have h1 := (own_emp (w.alloc (.cells #[] 3)) 95 3).base_le (B := w.heap.size) (by simp)
      have h2 : (w.alloc (.cells #[] 3)).heap.size = w.heap.size + 1 := by simp
      rwa [h2] at h1)
    obtain ⟨S, hS⟩ : ∃ S, strOfNums (bs.take 8) = S := ⟨_, rfl⟩
    obtain ⟨T, hT⟩ : ∃ T, strOfNums head8 = T := ⟨_, rfl⟩
    obtain ⟨E, hE⟩ : ∃ E : Bool, decide (bs.take 8 = head8) = E := ⟨_, rfl⟩
    have k3 := str_inj HX8.out hh8
    rw [hS, hT, hE] at k3
    have k1 : (convert 22 9 (.slice (some ⟨b, off, none⟩) 8 c)).run Try.prog W0.drew = .ok (.string S) W0.drew := by
      rw [← hS]
      exact conv8 W0.drew _ 8 c _ (HR8.out.bel (bel_drewN HB0.out 1)) (by omega)
    have HE := hide hE
    have HT := hide hT
    have HS1 := hide hS
    clear hE hS hT HX8 hh8
    go_enter Try.func51, Try.ntmps51
    go_wp2_with fail
    clear hW0
    go_region_held (fun W => (convert 22 9 (.slice (some ⟨b, off, none⟩) 8 c)).run Try.prog W = .ok (.string S) W) (assumption) (first
      | (go_at_call 77
         refine (l04Head_c _).mono ?_
         rintro e w1 ⟨A1, c1, rfl, ho1, hb1⟩
         have k2 : (convert 22 9 (.slice A1 8 c1)).run Try.prog w1 = .ok (.string T) w1 := by
           rw [← HT.out]
           exact conv8 w1 _ 8 c1 _ ho1.rd (by omega)
         have HB1 := hide (bel_step (bel_drewN HB0.out 1) hb1 HB0.out.size)
         have k4 : (convert 22 9 (.slice (some ⟨b, off, none⟩) 8 c)).run Try.prog w1 = .ok (.string S) w1 := by
           rw [← HS1.out]
           exact conv8 w1 _ 8 c _ (HR8.out.bel HB1.out) (by omega)
         have HOI1 := hide (Ow.below (HOI.out.drewN 1) hb1 (Nat.le_refl _))
         have HOR1 := hide (Ow.below (HOR.out.drewN 1) hb1 (Nat.le_refl _))
         clear ho1 hb1))
    clear k1 k3 HR8 HT HS1 HOI HOR HB0
    cases E
    · have hS : sections bs = none := by
        unfold sections
        rw [if_pos (.inr (of_decide_eq_false HE.out))]
      have HS := hide hS
      clear hS HE
      go_wp2_with fail
      go_ret3
      exact ⟨HB1.out, .inl ⟨HS.out, 1, by decide, rfl⟩⟩
    · have hS : sections bs = cutF (bs.length + 1) bs 8 0 [] := by
        unfold sections
        rw [if_neg (by
          intro h
          rcases h with h | h
          · have := HL.out; omega
          · exact h (of_decide_eq_true HE.out))]
      have HS := hide hS
      clear hS HE k2 k4
      go_wp2_with fail
      go_loopw [5, 6, 7, 8] (fun ids o i l wr => ∃ (a : Nat) (last : Int) (L : List Int) (N : Nat) (B R : Option Addr) (cb cr : Nat) (ys : List Value), i = .int .i64 a ∧ l = .int .i64 last ∧ ids = .slice B N cb ∧ o = .slice R N cr ∧ a ≤ n ∧ 8 ≤ a ∧ (N : Int) ≤ last ∧ last ≤ 11 ∧ Hid (L.length = N) ∧ Hid (∃ f, bs.length < a + f ∧ sections bs = cutF f bs a last L) ∧ Hid (Ow wr w.heap.size 3 1 B N cb (in64 L)) ∧ Hid (Ow wr w.heap.size 95 3 R N cr ys) ∧ Hid (blk B ≠ blk R) ∧ Hid (Below w.heap.size w wr)) (fun _ _ i _ _ => n - (intOf i).toNat)
      case atStart => exact ⟨8, 0, [], 0, _, _, 0, 0, [], rfl, rfl, rfl, rfl, by omega, by omega, by omega, by omega, hide rfl, hide ⟨bs.length + 1, by omega, HS.out⟩, HOI1, HOR1, hide (by simp [blk]), HB1⟩
      case round =>
        obtain ⟨a, last, L, N, B, R, cb, cr, ys, rfl, rfl, rfl, rfl, han, ha8, hpl, hl11, HQ, HF, HO, HP, HN, HB⟩ := hrel
        by_cases hlt : a < n
        · obtain ⟨x, hx⟩ : ∃ x, bs.getD a 0 = x := ⟨_, rfl⟩
          obtain ⟨p, r, t, hg⟩ : ∃ p r t, getU bs ((a : Int) + 1) = (p, r, t) := ⟨_, _, _, rfl⟩
          have hC := GetC.sGetU (some ⟨b, off, none⟩) n c bs ((a : Int) + 1) wr (HR.out.bel HB.out) HX.out (by omega)
          rw [hg] at hC
          unfold GetC.Gives at hC
          have HC := hide hC
          clear hC
          have hla : a < bs.length := by have := HL.out; omega
          have hxe : bs[a]'hla = x := by rw [← hx]; simp [List.getD, List.getElem?_eq_getElem hla]
          have hx0 : 0 ≤ x ∧ x ≤ 255 := by rw [← hxe]; exact HX.out _ (List.getElem_mem _)
          obtain ⟨hx00, hx01⟩ := hx0
          have hcell : wr.cell? ⟨b, off + a, none⟩ = some (.int .u8 x) := (HB.out.cell (p := ⟨b, off + a, none⟩) hb).trans (HCL.out a _ (by rw [by8_get hla, hxe]))
          have HXE := hide hx
          have HG := hide hg
          clear hx hg hxe hla
          have hwx : IntKind.i64.wrap x = x := by rw [IntKind.wrap_i64]; omega
          have hwa : IntKind.i64.wrap ((a : Int) + 1) = (a : Int) + 1 := by rw [IntKind.wrap_i64]; omega
          have ha0 : (0 : Int) ≤ a := by omega
          have han1 : (a : Int) < n := by omega
          by_cases hbad : x ∉ ids8 ∨ x ≤ last ∨ t = false ∨ (n : Int) - r < p
          · have hS2 : sections bs = none := by
              obtain ⟨f, h1, h2⟩ := HF.out
              obtain ⟨f', rfl⟩ : ∃ f', f = f' + 1 := ⟨f - 1, by have := HL.out; omega⟩
              rw [h2, cut_bad (by have := HL.out; omega) HXE.out HG.out (by rw [HL.out]; exact hbad)]
            have HS2 := hide hS2
            clear hS2 HF HS HO HP HN
            by_cases hin : x ∈ ids8
            · have hin8 : x = 1 ∨ x = 2 ∨ x = 3 ∨ x = 5 ∨ x = 6 ∨ x = 7 ∨ x = 10 ∨ x = 11 := by simpa [ids8] using hin
              have hrest : x ≤ last ∨ t = false ∨ (n : Int) - r < p := by
                rcases hbad with h | h
                · exact absurd hin h
                · exact h
              clear hbad hin
              by_cases h1 : x ≤ last
              · clear hrest
                rcases hin8 with rfl | rfl | rfl | rfl | rfl | rfl | rfl | rfl
                all_goals
                  go_wp2_with (go_at_call 12; refine HC.out.mono ?_; rintro e w' ⟨rfl, rfl⟩)
                  go_ret3
                  exact ⟨HB.out, .inl ⟨HS2.out, 2, by decide, rfl⟩⟩
              · cases t
                · clear hrest
                  rcases hin8 with rfl | rfl | rfl | rfl | rfl | rfl | rfl | rfl
                  all_goals
                    go_wp2_with (go_at_call 12; refine HC.out.mono ?_; rintro e w' ⟨rfl, rfl⟩)
                    go_ret3
                    exact ⟨HB.out, .inl ⟨HS2.out, 2, by decide, rfl⟩⟩
                · obtain ⟨p0, p1, _, r0, r1, _⟩ := getU_true HX.out HG.out
                  have r2 : r ≤ n := by have := HL.out; omega
                  have h3 : (n : Int) - r < p := by
                    rcases hrest with h | h | h
                    · exact absurd h h1
                    · cases h
                    · exact h
                  have hwn : IntKind.i64.wrap ((n : Int) - r) = n - r := by rw [IntKind.wrap_i64]; omega
                  clear hrest
                  rcases hin8 with rfl | rfl | rfl | rfl | rfl | rfl | rfl | rfl
                  all_goals
                    go_wp2_with (go_at_call 12; refine HC.out.mono ?_; rintro e w' ⟨rfl, rfl⟩)
                    go_ret3
                    exact ⟨HB.out, .inl ⟨HS2.out, 2, by decide, rfl⟩⟩
            · have hin8 : (x == 1) = false ∧ (x == 2) = false ∧ (x == 3) = false ∧ (x == 5) = false ∧ (x == 6) = false ∧ (x == 7) = false ∧ (x == 10) = false ∧ (x == 11) = false := by simpa [ids8] using hin
              obtain ⟨n1, n2, n3, n4, n5, n6, n7, n8⟩ := hin8
              clear hbad hin
              go_wp2_with (go_at_call 12; refine HC.out.mono ?_; rintro e w' ⟨rfl, rfl⟩)
              go_ret3
              exact ⟨HB.out, .inl ⟨HS2.out, 2, by decide, rfl⟩⟩
          · have hin : x ∈ ids8 := Classical.not_not.1 fun h1 => hbad (.inl h1)
            have hgt : last < x := by
              rcases Int.lt_or_le last x with h2 | h2
              · exact h2
              · exact absurd (.inr (.inl h2)) hbad
            have ht : t = true := by
              cases t
              · exact absurd (.inr (.inr (.inl rfl))) hbad
              · rfl
            subst ht
            have hle : p ≤ (n : Int) - r := by
              rcases Int.lt_or_le ((n : Int) - r) p with h3 | h3
              · exact absurd (.inr (.inr (.inr h3))) hbad
              · exact h3
            clear hbad
            obtain ⟨p0, p1, _, r0, r1, _⟩ := getU_true HX.out HG.out
            obtain ⟨x1, x11⟩ := ids_le hin
            have r2 : r ≤ n := by have := HL.out; omega
            obtain ⟨pn, rfl⟩ : ∃ pn : Nat, p = pn := ⟨p.toNat, by omega⟩
            obtain ⟨rn, rfl⟩ : ∃ rn : Nat, r = rn := ⟨r.toNat, by omega⟩
            have HF2 := hide (show ∃ f, bs.length < (rn + pn) + f ∧ sections bs = cutF f bs (rn + pn) x (L ++ [x]) by
              obtain ⟨f, h1, h2⟩ := HF.out
              obtain ⟨f', rfl⟩ : ∃ f', f = f' + 1 := ⟨f - 1, by have := HL.out; omega⟩
              refine ⟨f', by omega, ?_⟩
              rw [h2, cut_more (by have := HL.out; omega) HXE.out HG.out hin hgt (by rw [HL.out]; exact hle)]
              congr 1)
            have hwn : IntKind.i64.wrap ((n : Int) - rn) = n - rn := by rw [IntKind.wrap_i64]; omega
            have hwp : IntKind.i64.wrap ((rn : Int) + pn) = (rn : Int) + pn := by rw [IntKind.wrap_i64]; omega
            have hpr : (rn : Int) + pn ≤ n := by omega
            have hpc : (rn : Int) + pn ≤ c := by omega
            have hp00 : (0 : Int) ≤ (rn : Int) + pn := by omega
            have hng : ¬ ((n : Int) - rn < pn) := by omega
            have hnl : ¬ (x ≤ last) := by omega
            have hq11 : N ≤ 11 := by omega
            have hrn : (a : Int) + 1 < rn := by omega
            have hin8 : x = 1 ∨ x = 2 ∨ x = 3 ∨ x = 5 ∨ x = 6 ∨ x = 7 ∨ x = 10 ∨ x = 11 := by simpa [ids8] using hin
            clear hin HXE HG HF HS hle r1 p1 hx00 hx01 hwx
            rcases hin8 with rfl | rfl | rfl | rfl | rfl | rfl | rfl | rfl
            all_goals
                go_wp2_with (first
                  | (go_at_call 12; refine HC.out.mono ?_; rintro e w' ⟨rfl, rfl⟩)
                  | (at_builtin
                     refine app1 rfl _ _ rfl rfl rfl EIo HO.out rfl (oneI _) (by omega) HB.out.size ?_
                     intro B4 d4 w4 ho4 hg4 hl4
                     have HO4 := hide ho4
                     have HB4 := hide (bel_grown HB.out hg4 HB.out.size (fun g hg => (HO.out.blk_lt g hg).1))
                     have HP4 := hide (Ow.kept HP.out hg4 (.inr (fun h => HN.out h.symm)))
                     have HN4 := hide (ne_step HN.out hl4 (fun g hg => (HP.out.blk_lt g hg).2))
                     clear ho4 hg4 hl4)
                  | (at_builtin
                     refine app1 rfl _ _ rfl rfl rfl ER HP4.out rfl (oneR _ _ _ _ _) (by omega) HB4.out.size ?_
                     intro R5 d5 w5 ho5 hg5 hl5
                     have HP5 := hide ho5
                     have HB5 := hide (bel_grown HB4.out hg5 HB4.out.size (fun g hg => (HP4.out.blk_lt g hg).1))
                     have HO5 := hide (Ow.kept HO4.out hg5 (.inr HN4.out))
                     have HN5 := hide (show blk B4 ≠ blk R5 from fun h => ne_step (B := R) (R := B4) (fun h => HN4.out h.symm) hl5 (fun g hg => (HO4.out.blk_lt g hg).2) h.symm)
                     clear ho5 hg5 hl5))
                go_roundw
                · repeat (apply Exists.intro)
                  refine ⟨⟨rn + pn, _, _, N + 1, B4, R5, d4, d5, _, (show Value.int .i64 ((rn : Int) + pn) = Value.int .i64 ((rn + pn : Nat) : Int) by simp), rfl, rfl, rfl, by omega, by omega, by omega, by omega, hide (by have := HQ.out; simp [this]), HF2, hide (in64_snoc HO5.out), HP5, HN5, HB5⟩, ?_⟩
                  rfl
                · simp [intOf]; omega
        · have hge : (n : Int) ≤ a := by omega
          have hS2 : sections bs = some L := by
            obtain ⟨f, h1, h2⟩ := HF.out
            obtain ⟨f', rfl⟩ : ∃ f', f = f' + 1 := ⟨f - 1, by have := HL.out; omega⟩
            rw [h2, cut_end (by have := HL.out; omega)]
          have HS2 := hide hS2
          clear hS2 HS HF
          have hq11 : N ≤ 11 := by omega
          clear hpl hl11
          have hn0 : decide ((a : Int) < n) = false := decide_eq_false (by omega)
          go_wp2_with fail
          go_ret3
          exact ⟨HB.out, .inr ⟨L, B, R, N, cb, cr, HS2.out, HQ.out, hq11, rfl, HO.out⟩⟩
end Go.Proofs.Ytflecejioaokmaa.Sec
