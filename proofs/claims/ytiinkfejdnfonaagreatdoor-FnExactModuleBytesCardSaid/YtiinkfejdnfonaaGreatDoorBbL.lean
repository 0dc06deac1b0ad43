/- BodyBytes, in the program and in the reference: a contract each; the law on it, walked. -/
import Derived.Test.YtiinkfejdnfonaaGreatDoorBbC
import Derived.Test.YtiinkfejdnfonaaGreatDoorBodyL
namespace Go.Proofs.YtiinkfejdnfonaaGreatDoor.Bb
open Go.RowKit Go.Proofs.YtiinkfejdnfonaaGreatDoor.Num Go.Proofs.YtiinkfejdnfonaaGreatDoor.NumC Go.Proofs.YtiinkfejdnfonaaGreatDoor.Mem Go.Proofs.YtiinkfejdnfonaaGreatDoor.Shape Go.Proofs.YtiinkfejdnfonaaGreatDoor.Body Go.Proofs.YtiinkfejdnfonaaGreatDoor.Ops Go.Proofs.YtiinkfejdnfonaaGreatDoor.Leb
set_option linter.unusedVariables false
theorem allOk_c (A : Option Addr) (n c : Nat) (l : List Ins3) (w : World) (hr : Rd w w.heap.size 3 A n (insC l)) (hn : n ≤ 1048576) :
    Calls Tryz.prog 89 #[.slice A n c] w fun e w' => e = .returned (.bool (allOk l)) ∧ Below w.heap.size w w' := by
  have HI := hide (indexFunc_c A n c l w hr hn)
  have hc : Calls Tryz.prog 112 #[.slice A n c, .func (.func 113) #[] #[]] w fun e w' => e = .returned (.bool (!allOk l)) ∧ Below w.heap.size w w' := by
    obtain ⟨R, hR⟩ : ∃ R, allOk l = R := ⟨_, rfl⟩
    rw [hR] at HI ⊢
    clear hr hn hR
    go_enter Tryz.func112, Tryz.ntmps112
    go_wp2_with fail
    refine HI.out.mono ?_
    rintro e w1 ⟨⟨r, rfl, hk⟩, hb⟩
    go_wp2_with fail
    go_ret
    refine ⟨?_, hb⟩
    rw [← hk]
    rfl
  have HC := hide hc
  obtain ⟨R, hR⟩ : ∃ R, allOk l = R := ⟨_, rfl⟩
  rw [hR] at HC ⊢
  clear hr hn hR hc HI
  go_enter Tryz.func89, Tryz.ntmps89
  go_wp2_with fail
  refine HC.out.mono ?_
  rintro e w1 ⟨rfl, hb⟩
  go_wp2_with fail
  go_ret
  exact ⟨by cases R <;> rfl, hb⟩
def full (l : List Ins3) : List Int := if allOk l then bodyB l else []
theorem own_nilB (w : World) (e size : Nat) : Ow w w.heap.size e size none 0 0 [] := World.ownsRow_nil w _ e size
theorem own_emptyB (w : World) (e size : Nat) : Ow (w.alloc (.cells #[] e)) w.heap.size e size (some ⟨w.heap.size, 0, none⟩) 0 0 [] := World.ownsRow_made w #[] 0 (Nat.le_refl _) (Nat.zero_le _) (by simp)
theorem one8all (bs : List Int) : ∀ u ∈ by8 bs, u.oneCell' = true := ints_oneCell _ bs
/-- the bytes of the first k instructions, as a row -/
def BR (base : Nat) (l : List Ins3) (k N : Nat) (As : Option Addr) (cs : Nat) (wr : World) : Prop := N = (bodyB (l.take k)).length ∧ Ow wr base 5 1 As N cs (by8 (bodyB (l.take k)))
theorem iBodyBytes (A : Option Addr) (n c : Nat) (l : List Ins3) (w : World) (hr : Rd w w.heap.size 3 A n (insC l)) (hn : n ≤ 1048576) :
    Calls Tryz.prog 93 #[.slice A n c] w (Fresh 5 1 (full l).length (by8 (full l)) w) := by
  have hn' : (n : Int) ≤ 1048576 := by omega
  have HA := hide (allOk_c A n c l w hr hn)
  have HR := hide hr
  have HL := hide (rd_ins hr)
  clear hr hn
  cases hok : allOk l
  · have hF : full l = [] := by unfold full; rw [hok]; rfl
    rw [hF]
    rw [hok] at HA
    clear hF hok
    go_enter Tryz.func93, Tryz.ntmps93
    go_wp2_with fail
    refine HA.out.mono ?_
    rintro e w1 ⟨rfl, hb⟩
    go_wp2_with fail
    go_ret
    exact ⟨none, 0, rfl, (own_nilB w1 _ _).base_le hb.size, hb⟩
  · have hF : full l = bodyB l := by unfold full; rw [hok]; rfl
    rw [hF]
    rw [hok] at HA
    clear hF hok
    go_enter Tryz.func93, Tryz.ntmps93
    go_wp2_with fail
    refine HA.out.mono ?_
    rintro e w1 ⟨rfl, hb⟩
    have HB1 := hide hb
    clear hb
    go_wp2_with fail
    go_loopw [3, 11] (fun s i wr => ∃ (k N : Nat) (As : Option Addr) (cs : Nat), k ≤ n ∧ i = .int .i64 k ∧ s = .slice As N cs ∧ Hid (BR w.heap.size l k N As cs wr) ∧ Hid (Below w.heap.size w wr)) (fun _ i _ => n - (intOf i).toNat)
    case atStart => exact ⟨0, 0, none, 0, Nat.zero_le _, rfl, rfl, hide ⟨rfl, (own_nilB w1 _ _).base_le HB1.out.size⟩, HB1⟩
    case round =>
      obtain ⟨k, N, As, cs, hk, rfl, rfl, HO, HB⟩ := hrel
      obtain ⟨hN, ho⟩ := HO.out
      have hNb : (N : Int) ≤ 11534336 := by have := bodyB_le (l.take k); rw [← hN, List.length_take] at this; omega
      have HOw := hide ho
      have HNe := hide hN
      clear hN ho
      by_cases hlt : k < n
      · obtain ⟨b, off, rfl, x, y, z, hx, c0, c1, c2, hbb⟩ := rd_cell (wr := wr) HR.out k hlt (fun p hp => HB.out.cell hp)
        have hi0 : (0 : Int) ≤ k := by omega
        have hi1 : (k : Int) < n := by omega
        have HXk := hide hx
        clear hx
        obtain ⟨F, hF⟩ : ∃ F, insB (x, y, z) = F := ⟨_, rfl⟩
        have HC := hide (fun w => insBytes_c x y z w)
        rw [hF] at HC
        have hFl : F.length ≤ 11 := by rw [← hF]; exact insB_le _
        have HF := hide hF
        clear hF
        go_wp2_with fail
        refine (HC.out _).mono ?_
        rintro e w2 ⟨A2, c2', rfl, ho2, hb2⟩
        have HO2 := hide (Ow.below (World.ownsRow.alloc HOw.out (.cells #[.int .i64 x, .int .i64 y, .int .i64 z] 139)) hb2 (Nat.le_refl _))
        have HB2 := hide (bel_step (HB.out.alloc HB.out.size (.cells #[.int .i64 x, .int .i64 y, .int .i64 z] 139)) hb2 (by simp; have := HB.out.size; omega))
        have HR2 := hide ho2.rd
        clear ho2 hb2
        go_wp2_with (at_builtin; refine app rfl _ _ rfl rfl rfl E8 HO2.out HR2.out (one8all _) (by omega) HB2.out.size ?_; intro B3 d3 w3 ho3 hg3 hl3)
        go_roundw
        case rel =>
          first
          | refine ⟨k + 1, N + F.length, B3, d3, by omega, by go_num, rfl, hide ⟨?_, ?_⟩, hide (bel_grown HB2.out hg3 HB2.out.size (fun g hg => (HO2.out.blk_lt g hg).1))⟩
          | refine ⟨k + 1, N + F.length, by omega, by go_num, B3, d3, rfl, hide ⟨?_, ?_⟩, hide (bel_grown HB2.out hg3 HB2.out.size (fun g hg => (HO2.out.blk_lt g hg).1))⟩
          | refine ⟨k + 1, by omega, by go_num, N + F.length, B3, d3, ⟨rfl, rfl, rfl⟩, hide ⟨?_, ?_⟩, hide (bel_grown HB2.out hg3 HB2.out.size (fun g hg => (HO2.out.blk_lt g hg).1))⟩
          · rw [take_more HXk.out, HF.out, List.length_append, ← HNe.out]
          · rw [take_more HXk.out, HF.out]
            simpa [by8] using ho3
        case measure => simp [intOf]; omega
      · obtain rfl : k = n := by omega
        have hl := HL.out
        go_wp2_with fail
        go_ret
        have h1 := HNe.out
        have h2 := HOw.out
        rw [List.take_of_length_le (by omega)] at h1 h2
        rw [← h1]
        exact ⟨As, cs, rfl, h2, HB.out⟩
theorem sBodyBytes (A : Option Addr) (n c : Nat) (l : List Ins3) (w : World) (hr : Rd w w.heap.size 3 A n (insC l)) (hn : n ≤ 1048576) :
    Calls Tryz.prog 78 #[.slice A n c] w (Fresh 5 1 (full l).length (by8 (full l)) w) := by
  have hn' : (n : Int) ≤ 1048576 := by omega
  have HR := hide hr
  have HL := hide (rd_ins hr)
  clear hr hn
  go_enter Tryz.func78, Tryz.ntmps78
  go_wp2_with fail
  go_loopw [3, 9] (fun s i wr => ∃ (k N : Nat) (As : Option Addr) (cs : Nat), k ≤ n ∧ i = .int .i64 k ∧ s = .slice As N cs ∧ Hid (BR w.heap.size l k N As cs wr) ∧ Hid (Below w.heap.size w wr) ∧ Hid (∀ j : Nat, j < k → ∀ x, l[j]? = some x → insOk x = true)) (fun _ i _ => n - (intOf i).toNat)
  case atStart => exact ⟨0, 0, _, 0, Nat.zero_le _, rfl, rfl, hide ⟨rfl, own_emptyB w _ _⟩, hide ((Below.refl _ _).alloc (Nat.le_refl _) _), hide (fun j hj => by omega)⟩
  case round =>
    obtain ⟨k, N, As, cs, hk, rfl, rfl, HO, HB, HE⟩ := hrel
    obtain ⟨hN, ho⟩ := HO.out
    have hNb : (N : Int) ≤ 11534336 := by have := bodyB_le (l.take k); rw [← hN, List.length_take] at this; omega
    have HOw := hide ho
    have HNe := hide hN
    clear hN ho
    by_cases hlt : k < n
    · obtain ⟨b, off, rfl, x, y, z, hx, c0, c1, c2, hbb⟩ := rd_cell (wr := wr) HR.out k hlt (fun p hp => HB.out.cell hp)
      have hi0 : (0 : Int) ≤ k := by omega
      have hi1 : (k : Int) < n := by omega
      have HXk := hide hx
      clear hx
      have HK := hide (fun w => sInsOk x y z w)
      have V0 := var3_new wr x y z 139
      cases hok : insOk (x, y, z)
      · rw [hok] at HK
        have hF : full l = [] := by unfold full; rw [allOk_no HXk.out hok]; rfl
        rw [hF]
        clear hF hok
        go_wp2_with fail
        refine (HK.out _).mono ?_
        rintro e w2 ⟨rfl, hb2⟩
        have HB2 := hide (bel_step (HB.out.alloc HB.out.size (.cells #[.int .i64 x, .int .i64 y, .int .i64 z] 139)) hb2 (by simp; have := HB.out.size; omega))
        clear hb2
        go_wp2_with fail
        go_ret
        exact ⟨none, 0, rfl, (own_nilB w2 _ _).base_le HB2.out.size, HB2.out⟩
      · rw [hok] at HK
        have HOK := hide hok
        clear hok
        obtain ⟨F, hF⟩ : ∃ F, insB (x, y, z) = F := ⟨_, rfl⟩
        have hFl : F.length ≤ 11 := by rw [← hF]; exact insB_le _
        have HF := hide hF
        clear hF
        go_wp2_with fail
        refine (HK.out _).mono ?_
        rintro e w2 ⟨rfl, hb2⟩
        have V2 := var3_bel V0 hb2
        obtain ⟨v0, v1, v2, _⟩ := V2
        have HO2 := hide (Ow.below (World.ownsRow.alloc HOw.out (.cells #[.int .i64 x, .int .i64 y, .int .i64 z] 139)) hb2 (Nat.le_refl _))
        have HB2 := hide (bel_step (HB.out.alloc HB.out.size (.cells #[.int .i64 x, .int .i64 y, .int .i64 z] 139)) hb2 (by simp; have := HB.out.size; omega))
        clear hb2 V0
        go_wp2_with fail
        refine (l04Ins_c As N cs w.heap.size _ x y z w2 HO2.out (by omega) HB2.out.size).mono ?_
        rintro e w3 ⟨B3, d3, rfl, ho3, hg3⟩
        rw [HF.out] at ho3 ⊢
        have HO3 := hide ho3
        have HB3 := hide (bel_grown HB2.out hg3 HB2.out.size (fun g hg => (HO2.out.blk_lt g hg).1))
        clear ho3 hg3
        go_wp2_with fail
        go_roundw
        case rel =>
          have hE : ∀ j : Nat, j < k + 1 → ∀ q, l[j]? = some q → insOk q = true := fun j hj q hq => by
            by_cases hjk : j < k
            · exact HE.out j hjk q hq
            · obtain rfl : j = k := by omega
              rw [HXk.out] at hq
              rw [← Option.some.inj hq]
              exact HOK.out
          first
          | refine ⟨k + 1, N + F.length, B3, d3, by omega, by go_num, rfl, hide ⟨?_, ?_⟩, HB3, hide hE⟩
          | refine ⟨k + 1, N + F.length, by omega, by go_num, B3, d3, rfl, hide ⟨?_, ?_⟩, HB3, hide hE⟩
          | refine ⟨k + 1, by omega, by go_num, N + F.length, B3, d3, ⟨rfl, rfl, rfl⟩, hide ⟨?_, ?_⟩, HB3, hide hE⟩
          · rw [take_more HXk.out, HF.out, List.length_append, ← HNe.out]
          · rw [take_more HXk.out, HF.out]
            exact HO3.out
        case measure => simp [intOf]; omega
    · obtain rfl : k = n := by omega
      have hl := HL.out
      have hF : full l = bodyB l := by
        unfold full
        rw [allOk_yes (fun j x hx => HE.out j (by have := (List.getElem?_eq_some_iff.1 hx).1; omega) x hx)]
        rfl
      have HFF := hide hF
      clear hF
      go_wp2_with fail
      go_ret
      rw [HFF.out]
      have h1 := HNe.out
      have h2 := HOw.out
      rw [List.take_of_length_le (by omega)] at h1 h2
      rw [← h1]
      exact ⟨As, cs, rfl, h2, HB.out⟩
end Go.Proofs.YtiinkfejdnfonaaGreatDoor.Bb
