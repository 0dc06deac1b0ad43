/- The reference's head, section, memory and functions: a contract each. -/
import Derived.Test.YtiinkfejdnfonaaGreatDoorMbC
namespace Go.Proofs.YtiinkfejdnfonaaGreatDoor.Mb
open Go.RowKit Go.Proofs.YtiinkfejdnfonaaGreatDoor.Num Go.Proofs.YtiinkfejdnfonaaGreatDoor.NumC Go.Proofs.YtiinkfejdnfonaaGreatDoor.Mem Go.Proofs.YtiinkfejdnfonaaGreatDoor.Shape Go.Proofs.YtiinkfejdnfonaaGreatDoor.Utf Go.Proofs.YtiinkfejdnfonaaGreatDoor.Ops Go.Proofs.YtiinkfejdnfonaaGreatDoor.Leb Go.Proofs.YtiinkfejdnfonaaGreatDoor.Mo Go.Proofs.YtiinkfejdnfonaaGreatDoor.Bb Go.Proofs.YtiinkfejdnfonaaGreatDoor.NameC Go.Proofs.YtiinkfejdnfonaaGreatDoor.PutC
set_option linter.unusedVariables false
theorem wrap8 {x : Int} (h0 : 0 ≤ x) (h1 : x ≤ 255) : IntKind.u8.wrap x = x := by rw [IntKind.wrap_u8]; omega
theorem rd_nil (w : World) (A : Option Addr) : Rd w w.heap.size 1 A 0 (by8 []) := Rd.nil
set_option maxRecDepth 100000 in
theorem sHead (w : World) : Calls Tryz.prog 25 #[] w (Fresh 5 1 headB.length (by8 headB) w) := by
  go_enter Tryz.func25, Tryz.ntmps25
  go_wp2_with fail
  go_ret
  exact ⟨_, _, rfl, World.ownsRow_lit w _ 8 (Nat.le_refl _) (by decide) rfl, (Below.refl _ _).alloc (Nat.le_refl _) _⟩
set_option maxRecDepth 100000 in
set_option maxHeartbeats 4000000 in
theorem sSection (B : Option Addr) (nB dB base : Nat) (X : List Int) (id : Int) (n : Nat) (A : Option Addr) (m c : Nat) (I : List Int) (w : World) (ho : Ow w base 5 1 B nB dB (by8 X)) (hb : base ≤ w.heap.size)
    (hin : Rd w w.heap.size 1 A m (by8 I)) (hne : ∀ g, blk A = some g → blk B ≠ some g) (hnB : (nB : Int) ≤ 100000000) (hm : (m : Int) ≤ 2000000) (hid0 : 0 ≤ id) (hid1 : id ≤ 255) :
    Calls Tryz.prog 24 #[.slice B nB dB, .int .i64 id, .int .i64 n, .slice A m c] w (Wrote base nB (secB id n I) X B w) := by
  have hml : I.length = m := rd_by8 hin
  by_cases h0 : n = 0
  · subst h0
    have HO := hide ho
    clear ho hin hne hb
    go_enter Tryz.func24, Tryz.ntmps24
    go_wp2_with fail
    go_ret
    exact ⟨B, dB, rfl, by rw [secB_0, List.append_nil]; exact HO.out, World.grownBy.refl _ _⟩
  · have h0b : ((n : Int) == 0) = false := by simp; omega
    have h0i : ¬ (n : Int) = 0 := by omega
    have hv := wrap8 hid0 hid1
    have hz := u_le n
    have HO := hide ho
    have HI := hide hin
    have HBS := hide hb
    have C1 := hide (show ∀ w, Calls Tryz.prog 77 #[.slice none 0 0, .int .i64 n] w (Fresh 5 1 (u n).length (by8 (u n)) w) from fun w => by
      have h := sPutU none 0 0 [] n w (rd_nil w none) (by omega)
      rw [Nat.zero_add, List.nil_append] at h
      exact h)
    have HS := hide (secB_s (id := id) (I := I) (show 0 < n by omega))
    obtain ⟨P, hP⟩ : ∃ P, u n = P := ⟨_, rfl⟩
    rw [hP] at C1 HS hz
    have hPI : (P ++ I).length = P.length + m := by rw [List.length_append, hml]
    obtain ⟨Y, hY⟩ : ∃ Y, P ++ I = Y := ⟨_, rfl⟩
    rw [hY] at HS hPI
    rw [hPI] at HS
    have HML := hide (And.intro hml (And.intro hPI hY))
    have HNE := hide hne
    have hz2 := u_le ((P.length + m : Nat) : Int)
    have C2 := hide (show ∀ A c bs w, Rd w w.heap.size 1 A (nB + 1) (by8 bs) → Calls Tryz.prog 77 #[.slice A (nB + 1) c, .int .i64 ((P.length + m : Nat) : Int)] w (Fresh 5 1 (nB + 1 + (u ((P.length + m : Nat) : Int)).length) (by8 (bs ++ u ((P.length + m : Nat) : Int))) w) from fun A c bs w hr => sPutU A (nB + 1) c bs _ w hr (by omega))
    obtain ⟨Z, hZ⟩ : ∃ Z, u ((P.length + m : Nat) : Int) = Z := ⟨_, rfl⟩
    rw [hZ] at C2 HS hz2
    clear hP hml hPI hY hZ ho hin hne hb h0
    go_enter Tryz.func24, Tryz.ntmps24
    go_wp2_with fail
    refine (C1.out w).mono ?_
    rintro e w1 ⟨A1, d1, rfl, ho1, hb1⟩
    have HO1 := hide ho1
    have HB1 := hide hb1
    have HI1 := hide (HI.out.bel hb1)
    have HR1 := hide (HO.out.below hb1 (Nat.le_refl _))
    clear ho1 hb1
    go_upto_region 4 with (at_builtin; refine app rfl _ _ rfl rfl rfl E8 HO1.out HI1.out (one8all _) (by omega) HB1.out.size ?_; intro A2 d2 w2 ho2 hg2 hl2)
    have HG2 := hide (show w.grownBy w2 (blk B) from gr_new' (row := blk A1) (gr_bel' (World.grownBy.refl w (blk B)) HB1.out) hg2 (fun b hb => .inl (HO1.out.blk_lt b hb).1))
    have HO2 := hide (show Ow w2 w.heap.size 5 1 A2 (P.length + m) d2 (by8 Y) by rw [← HML.out.2.2]; simpa [by8] using ho2)
    have HR2 := hide (HR1.out.kept hg2 (blk_ne (HO.out.lt) (HO1.out.ge)))
    clear ho2 hg2 hl2 HO1 HB1 HI1 HR1
    go_wp2_with (at_builtin; refine app1 rfl _ _ rfl rfl rfl E8 HR2.out rfl (one8 _) (by omega) (Nat.le_trans HBS.out HG2.out.size) ?_; intro B3 d3 w3 ho3 hg3 hl3)
    have HO3 := hide (show Ow w3 base 5 1 B3 (nB + 1) d3 (by8 (X ++ [id])) by simpa [by8] using ho3)
    have HG3 := hide (grown_trans HG2.out hg3)
    have HY3 := hide (HO2.out.kept hg3 (blk_ne' (HO.out.lt) (HO2.out.ge)))
    clear ho3 hg3 hl3 HR2 HO2 HG2
    refine (C2.out B3 d3 (X ++ [id]) w3 HO3.out.rd).mono ?_
    rintro e w4 ⟨A4, d4, rfl, ho4, hb4⟩
    have HO4 := hide ho4
    have HG4 := hide (gr_bel' HG3.out hb4)
    have HY4 := hide (HY3.out.below hb4 (Nat.le_refl _))
    have hs4 := hb4.size
    have HW3 := hide HG3.out.size
    clear ho4 hb4 HO3 HG3 HY3
    have HS4 := hide hs4
    clear hs4
    go_wp2_with (at_builtin; refine app rfl _ _ rfl rfl rfl E8 HO4.out HY4.out.rd (one8all _) (by omega) HS4.out ?_; intro A5 d5 w5 ho5 hg5 hl5)
    go_ret
    have e1 : (nB + 1 + Z.length + (P.length + m)) = nB + (id :: (Z ++ Y)).length := by simp [HML.out.2.1]; omega
    refine ⟨A5, d5, ?_, ?_, gr_new' HG4.out hg5 (fun b hb => .inl (Nat.le_trans HW3.out (HO4.out.blk_lt b hb).1))⟩
    · rw [HS.out, ← e1]
      rfl
    · rw [HS.out, ← e1]
      have h := ho5.base_le (Nat.le_trans HBS.out HW3.out)
      simpa [by8] using h
end Go.Proofs.YtiinkfejdnfonaaGreatDoor.Mb
