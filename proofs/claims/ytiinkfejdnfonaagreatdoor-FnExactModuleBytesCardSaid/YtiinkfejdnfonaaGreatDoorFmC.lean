/- Modules of a right form, in the program and in the reference: a contract each. -/
import Derived.Test.YtiinkfejdnfonaaGreatDoorFmN
import Derived.Test.YtiinkfejdnfonaaGreatDoorUtfC
import Derived.Test.YtiinkfejdnfonaaGreatDoorBbL
import Derived.Test.YtiinkfejdnfonaaGreatDoorShapeC
import Derived.Deep.Cut
import Derived.Deep.CutRange
import Derived.Deep.RegionHeld
namespace Go.Proofs.YtiinkfejdnfonaaGreatDoor.Mo
open Go.RowKit Go.Proofs.YtiinkfejdnfonaaGreatDoor.Num Go.Proofs.YtiinkfejdnfonaaGreatDoor.NumC Go.Proofs.YtiinkfejdnfonaaGreatDoor.Mem Go.Proofs.YtiinkfejdnfonaaGreatDoor.Shape Go.Proofs.YtiinkfejdnfonaaGreatDoor.Utf Go.Proofs.YtiinkfejdnfonaaGreatDoor.Ops Go.Proofs.YtiinkfejdnfonaaGreatDoor.Body
set_option linter.unusedVariables false
/-- the library's tables of UTF-8 -/
def UTab (w : World) : Prop := Lib.Utf8Tabs 0 1 w
theorem utab_bel {w w' : World} (h : UTab w) (hb : Below w.heap.size w w') : UTab w' :=
  ⟨fun c hc => (hb.cell (p := ⟨0, c, none⟩) (World.block_lt_of_cell? w _ (h.1 c hc))).trans (h.1 c hc),
   fun i hi => ⟨(hb.cell (p := ⟨1, 2 * i, none⟩) (World.block_lt_of_cell? w _ (h.2 i hi).1)).trans (h.2 i hi).1, (hb.cell (p := ⟨1, 2 * i + 1, none⟩) (World.block_lt_of_cell? w _ (h.2 i hi).2)).trans (h.2 i hi).2⟩⟩
theorem within_b (x lo hi : Int) (w : World) : Calls Tryz.prog 87 #[.int .i64 x, .int .i64 lo, .int .i64 hi] w fun e w' => e = .returned (.bool (inR lo hi x)) ∧ w = w' := by
  by_cases h : lo ≤ x
  · by_cases h' : x ≤ hi
    · rw [inR_t h h']
      exact within_t x lo hi w h h'
    · rw [inR_hi (by omega)]
      exact within_f x lo hi w (.inr (by omega))
  · rw [inR_lo (by omega)]
    exact within_f x lo hi w (.inl (by omega))
theorem iName (s : ByteArray) (w : World) (hs : (s.size : Int) ≤ 1048576) (hT : UTab w) : Calls Tryz.prog 88 #[.string s] w fun e w' => e = .returned (.bool (nameR s)) ∧ Below w.heap.size w w' := by
  have HC := hide (iUtfOk s w hs hT)
  unfold nameR
  obtain ⟨R, hR⟩ : ∃ R, utfOk s = R := ⟨_, rfl⟩
  rw [hR] at HC ⊢
  clear hR hT
  cases R
  · go_enter Tryz.func88, Tryz.ntmps88
    go_wp2_with fail
    refine HC.out.mono ?_
    rintro e w1 ⟨rfl, hb⟩
    go_wp2_with fail
    go_ret
    exact ⟨rfl, hb⟩
  · go_enter Tryz.func88, Tryz.ntmps88
    go_wp2_with fail
    refine HC.out.mono ?_
    rintro e w1 ⟨rfl, hb⟩
    go_wp2_with fail
    go_ret
    exact ⟨by rw [Bool.true_and]; rfl, hb⟩
theorem sName (s : ByteArray) (w : World) (hs : (s.size : Int) ≤ 1048576) : Calls Tryz.prog 76 #[.string s] w fun e w' => e = .returned (.bool (nameR s)) ∧ Below w.heap.size w w' := by
  have HC := hide (sUtfOk s w hs)
  unfold nameR
  obtain ⟨R, hR⟩ : ∃ R, utfOk s = R := ⟨_, rfl⟩
  rw [hR] at HC ⊢
  clear hR
  cases R
  · go_enter Tryz.func76, Tryz.ntmps76
    go_wp2_with fail
    refine HC.out.mono ?_
    rintro e w1 ⟨rfl, rfl⟩
    go_wp2_with fail
    go_ret
    exact ⟨rfl, Below.refl _ _⟩
  · go_enter Tryz.func76, Tryz.ntmps76
    go_wp2_with fail
    refine HC.out.mono ?_
    rintro e w1 ⟨rfl, rfl⟩
    go_wp2_with fail
    go_ret
    exact ⟨by rw [Bool.true_and]; rfl, Below.refl _ _⟩
set_option maxRecDepth 100000 in
theorem sBody (A : Option Addr) (n c : Nat) (l : List Ins3) (w : World) (hr : Rd w w.heap.size 3 A n (insC l)) (hn : n ≤ 1048576) :
    Calls Tryz.prog 104 #[.slice A n c] w fun e w' => e = .returned (.bool (bodyR l)) ∧ Below w.heap.size w w' := by
  have hn' : (n : Int) ≤ 1048576 := by omega
  have HR := hide hr
  have HL := hide (rd_ins hr)
  have HC := hide (fun w hr => sShapeOk A n c l w hr hn)
  have HX := hide (show bodyR l = (Bb.allOk l && (decide ((n : Int) ≤ 1500) && shapeOk l)) by unfold bodyR; rw [rd_ins hr])
  obtain ⟨R, hR⟩ : ∃ R, bodyR l = R := ⟨_, rfl⟩
  rw [hR] at HX ⊢
  clear hr hn hR
  go_enter Tryz.func104, Tryz.ntmps104
  go_wp2_with fail
  go_loopw [7] (fun i wr => ∃ k : Nat, k ≤ n ∧ i = .int .i64 k ∧ Hid (∀ j x, j < k → l[j]? = some x → insOk x = true) ∧ Hid (Below w.heap.size w wr)) (fun i _ => n - (intOf i).toNat)
  case atStart => exact ⟨0, Nat.zero_le _, rfl, hide (fun j x hj => by omega), hide (Below.refl _ _)⟩
  case round =>
    obtain ⟨k, hk, rfl, HO, HD⟩ := hrel
    by_cases hlt : k < n
    · obtain ⟨b, off, rfl, x, y, z, hx, c0, c1, c2, hbb⟩ := rd_cell (wr := wr) HR.out k hlt (fun p hp => HD.out.cell hp)
      have hi0 : (0 : Int) ≤ k := by omega
      have hi1 : (k : Int) < n := by omega
      have HXk := hide hx
      obtain ⟨q, hq⟩ : ∃ q, insOk (x, y, z) = q := ⟨_, rfl⟩
      have HI := hide (fun w => sInsOk x y z w)
      rw [hq] at HI
      have Q := hide hq
      have HDa := hide (HD.out.alloc HD.out.size (.cells #[.int .i64 x, .int .i64 y, .int .i64 z] 139))
      clear hx hq
      cases q
      · have hR : R = false := by rw [HX.out, Bb.allOk_no HXk.out Q.out]; rfl
        subst hR
        go_wp2_with fail
        refine (HI.out _).mono ?_
        rintro e w1 ⟨rfl, hb⟩
        have HD1 := hide (bel_step HDa.out hb HDa.out.size)
        clear hb
        go_wp2_with fail
        go_ret
        exact ⟨rfl, HD1.out⟩
      · have HO1 := hide (ok_step HO.out HXk.out Q.out)
        go_wp2_with fail
        refine (HI.out _).mono ?_
        rintro e w1 ⟨rfl, hb⟩
        have HD1 := hide (bel_step HDa.out hb HDa.out.size)
        clear hb
        go_wp2_with fail
        go_roundw
        case rel =>
          first
          | exact ⟨k + 1, by omega, by go_num, HO1, HD1⟩
        case measure => simp [intOf]; omega
    · obtain rfl : n = k := by omega
      have HA := hide (Bb.allOk_yes (l := l) (fun j x hx => ok_all HL.out HO.out x (List.mem_of_getElem? hx)))
      by_cases hb1 : (n : Int) ≤ 1500
      · have hR : R = shapeOk l := by rw [HX.out, HA.out, decide_eq_true hb1]; simp
        obtain ⟨S, hS⟩ : ∃ S, shapeOk l = S := ⟨_, rfl⟩
        rw [hS] at hR HC
        subst hR
        clear hS
        go_wp2_with fail
        refine (HC.out _ (HR.out.bel HD.out)).mono ?_
        rintro e w1 ⟨rfl, hb⟩
        have HD1 := hide (bel_step HD.out hb HD.out.size)
        clear hb
        go_wp2_with fail
        go_ret
        exact ⟨rfl, HD1.out⟩
      · have hb2 : 1500 < (n : Int) := by omega
        have hR : R = false := by rw [HX.out, HA.out, decide_eq_false hb1]; rfl
        subst hR
        have hb3 : decide ((n : Int) ≤ 1500) = false := decide_eq_false hb1
        clear hb1
        go_wp2_with fail
        go_ret
        exact ⟨rfl, HD.out⟩
set_option maxRecDepth 100000 in
set_option maxHeartbeats 8000000 in
theorem sParts (m : MV) (w : World) (hR : m.Reads w) (hX : m.Long 1048576) :
    Calls Tryz.prog 74 #[m.v] w fun e w' => e = .returned (.bool (partsR m.pl)) ∧ Below w.heap.size w w' := by
  have HQ := hide (partsQ_iff m w hR)
  obtain ⟨R, hRR⟩ : ∃ R, partsR m.pl = R := ⟨_, rfl⟩
  rw [hRR] at HQ ⊢
  clear hRR
  obtain ⟨⟨S, Sn, Sc⟩, ⟨I, In, Ic⟩, ⟨F, Fn, Fc⟩, pg, mo, ⟨G, Gn, Gc⟩, ⟨E, En, Ec⟩, ⟨D, Dn, Dc⟩, sigs, imps, funs, glos, exps, dats⟩ := m
  have HX := hide hX
  have B0 := hide ((Below.refl w.heap.size w).alloc (Nat.le_refl _) (.cells #[.slice S Sn Sc, .slice I In Ic, .slice F Fn Fc, .int .i64 pg, .int .i64 mo, .slice G Gn Gc, .slice E En Ec, .slice D Dn Dc] 41))
  have HR0 := hide (hR.bel B0.out)
  have HK := hide (Blk.new w #[.slice S Sn Sc, .slice I In Ic, .slice F Fn Fc, .int .i64 pg, .int .i64 mo, .slice G Gn Gc, .slice E En Ec, .slice D Dn Dc] 41)
  skip
  have hSn : (Sn : Int) ≤ 1048576 := hX.S
  have hIn : (In : Int) ≤ 1048576 := hX.I
  have hFn : (Fn : Int) ≤ 1048576 := hX.F
  have hGn : (Gn : Int) ≤ 1048576 := hX.G
  have hEn : (En : Int) ≤ 1048576 := hX.E
  have hDn : (Dn : Int) ≤ 1048576 := hX.D
  clear hR hX
  change Calls Tryz.prog 74 #[.agg #[.slice S Sn Sc, .slice I In Ic, .slice F Fn Fc, .int .i64 pg, .int .i64 mo, .slice G Gn Gc, .slice E En Ec, .slice D Dn Dc]] w _
  by_cases ht0 : 30 < (Sn : Int)
  · have hR : R = false := no_of HQ (fun h => by have := h.a1; simp only [] at this; omega)
    subst hR
    go_enter Tryz.func74, Tryz.ntmps74
    go_wp2_with fail
    go_ret
    exact ⟨rfl, B0.out⟩
  have hu0 : (Sn : Int) ≤ 30 := by omega
  clear ht0
  by_cases ht1 : 60 < (In : Int) + Fn
  · have hR : R = false := no_of HQ (fun h => by have := h.a2; simp only [] at this; omega)
    subst hR
    go_enter Tryz.func74, Tryz.ntmps74
    go_wp2_with fail
    go_ret
    exact ⟨rfl, B0.out⟩
  have hu1 : (In : Int) + Fn ≤ 60 := by omega
  clear ht1
  have HA1 := hide hu0
  have HA2 := hide hu1
  go_enter Tryz.func74, Tryz.ntmps74
  go_wp2_with fail
  generalize w.alloc (.cells #[.slice S Sn Sc, .slice I In Ic, .slice F Fn Fc, .int .i64 pg, .int .i64 mo, .slice G Gn Gc, .slice E En Ec, .slice D Dn Dc] 41) = W0 at B0 HR0 HK ⊢
  have HDst := hide (Below.refl W0.heap.size W0)
  go_loopw [26] (fun i wr => ∃ k : Nat, k ≤ Sn ∧ i = .int .i64 k ∧ Hid (∀ j x, j < k → sigs[j]? = some x → sigR x = true) ∧ Hid (Below W0.heap.size W0 wr)) (fun i _ => Sn - (intOf i).toNat)
  case atStart => exact ⟨0, Nat.zero_le _, rfl, hide (fun j x hj => by omega), HDst⟩
  case round =>
    obtain ⟨k, hk, rfl, HO, HD⟩ := hrel
    have p0 : wr.cell? ⟨w.heap.size, 0, none⟩ = some (.slice S Sn Sc) := (HK.out.bel HD.out).cell 0
    have hz : w.heap.size < wr.heap.size := Nat.lt_of_lt_of_le HK.out.lt HD.out.size
    by_cases hlt : k < Sn
    · obtain ⟨b, off, x, rfl, hx, hbg, hcell⟩ := rd_get (wr := wr) sigL (by omega) HR0.out.S k hlt (fun p hp => HD.out.cell hp)
      have HXk := hide hx
      obtain ⟨p, r⟩ := x
      have hc0 : wr.cell? ⟨b, off + k * 2, none⟩ = some (.int .i64 p) := hcell 0 _ rfl
      have hc1 : wr.cell? ⟨b, off + k * 2 + 1, none⟩ = some (.int .i64 r) := hcell 1 _ rfl
      have hi0 : (0 : Int) ≤ k := by omega
      have hi1 : (k : Int) < Sn := by omega
      have HDa := hide (HD.out.alloc HD.out.size (.cells #[.int .i64 p, .int .i64 r] 77))
      have HEa := hide (Blk.new wr #[.int .i64 p, .int .i64 r] 77)
      have pa : (wr.alloc (.cells #[.int .i64 p, .int .i64 r] 77)).cell? ⟨w.heap.size, 0, none⟩ = some (.slice (some ⟨b, off, none⟩) Sn Sc) := (HK.out.bel HDa.out).cell 0
      clear hcell hx
      by_cases hc_0 : p < 0
      · skip
        have hR : R = false := by
          refine no_of HQ (fun h => ?_)
          have h1 := h.sg _ (List.mem_of_getElem? HXk.out)
          have h2 : sigR (p, r) = false := by simp [sigR, inR_lo (hi := 60) hc_0]
          change sigR (p, r) = true at h1
          rw [h2] at h1
          cases h1
        subst hR
        go_wp2_with fail
        go_ret
        exact ⟨rfl, B0.out.trans (Below.mono HDa.out B0.out.size)⟩
      · have hg_0 : 0 ≤ p := by omega
        clear hc_0
        by_cases hc_1 : 60 < p
        · skip
          have hR : R = false := by
            refine no_of HQ (fun h => ?_)
            have h1 := h.sg _ (List.mem_of_getElem? HXk.out)
            have h2 : sigR (p, r) = false := by simp [sigR, inR_hi (lo := 0) hc_1]
            change sigR (p, r) = true at h1
            rw [h2] at h1
            cases h1
          subst hR
          go_wp2_with fail
          go_ret
          exact ⟨rfl, B0.out.trans (Below.mono HDa.out B0.out.size)⟩
        · have hg_1 : p ≤ 60 := by omega
          clear hc_1
          by_cases hc_2 : r < 0
          · skip
            have hR : R = false := by
              refine no_of HQ (fun h => ?_)
              have h1 := h.sg _ (List.mem_of_getElem? HXk.out)
              have h2 : sigR (p, r) = false := by simp [sigR, inR_t (lo := 0) hg_0 hg_1, inR_lo (hi := 1) hc_2]
              change sigR (p, r) = true at h1
              rw [h2] at h1
              cases h1
            subst hR
            go_wp2_with fail
            go_ret
            exact ⟨rfl, B0.out.trans (Below.mono HDa.out B0.out.size)⟩
          · have hg_2 : 0 ≤ r := by omega
            clear hc_2
            by_cases hc_3 : 1 < r
            · skip
              have hR : R = false := by
                refine no_of HQ (fun h => ?_)
                have h1 := h.sg _ (List.mem_of_getElem? HXk.out)
                have h2 : sigR (p, r) = false := by simp [sigR, inR_t (lo := 0) hg_0 hg_1, inR_hi (lo := 0) hc_3]
                change sigR (p, r) = true at h1
                rw [h2] at h1
                cases h1
              subst hR
              go_wp2_with fail
              go_ret
              exact ⟨rfl, B0.out.trans (Below.mono HDa.out B0.out.size)⟩
            · have hg_3 : r ≤ 1 := by omega
              clear hc_3
              have HO1 := hide (ok_step (p := sigR) HO.out HXk.out (show sigR (p, r) = true by simp [sigR, inR_t (lo := 0) hg_0 hg_1, inR_t (lo := 0) hg_2 hg_3]))
              go_wp2_with fail
              go_roundw
              case rel =>
                first
                | exact ⟨k + 1, by omega, by go_num, HO1, HDa⟩
              case measure => simp [intOf]; omega
    · obtain rfl : Sn = k := by omega
      have HAS := hide (ok_all (p := sigR) (rd_len sigL (by omega) HR0.out.S) HO.out)
      have HDS := HD
      have hkn : decide ((Sn : Int) < Sn) = false := decide_eq_false (by omega)
      clear HD HO hk p0
      have p1 : wr.cell? ⟨w.heap.size, 1, none⟩ = some (.slice I In Ic) := (HK.out.bel HDS.out).cell 1
      go_wp2_with fail
      clear hkn
      go_loopw [52] (fun i wr => ∃ k : Nat, k ≤ In ∧ i = .int .i64 k ∧ Hid (∀ j x, j < k → imps[j]? = some x → impR Sn x = true) ∧ Hid (Below W0.heap.size W0 wr)) (fun i _ => In - (intOf i).toNat)
      case atStart => exact ⟨0, Nat.zero_le _, rfl, hide (fun j x hj => by omega), HDS⟩
      case round =>
        obtain ⟨k, hk, rfl, HO, HD⟩ := hrel
        have p0 : wr.cell? ⟨w.heap.size, 0, none⟩ = some (.slice S Sn Sc) := (HK.out.bel HD.out).cell 0
        have hz : w.heap.size < wr.heap.size := Nat.lt_of_lt_of_le HK.out.lt HD.out.size
        by_cases hlt : k < In
        · obtain ⟨b, off, x, rfl, hx, hbg, hcell⟩ := rd_get (wr := wr) impL (by omega) HR0.out.I k hlt (fun p hp => HD.out.cell hp)
          have HXk := hide hx
          have HXs := hide (HX.out.IS x (List.mem_of_getElem? hx))
          obtain ⟨a, c, i⟩ := x
          have hc0 : wr.cell? ⟨b, off + k * 3, none⟩ = some (.string a) := hcell 0 _ rfl
          have hc1 : wr.cell? ⟨b, off + k * 3 + 1, none⟩ = some (.string c) := hcell 1 _ rfl
          have hc2 : wr.cell? ⟨b, off + k * 3 + 2, none⟩ = some (.int .i64 i) := hcell 2 _ rfl
          have hi0 : (0 : Int) ≤ k := by omega
          have hi1 : (k : Int) < In := by omega
          have HDa := hide (HD.out.alloc HD.out.size (.cells #[.string a, .string c, .int .i64 i] 79))
          have HEa := hide (Blk.new wr #[.string a, .string c, .int .i64 i] 79)
          have pa : (wr.alloc (.cells #[.string a, .string c, .int .i64 i] 79)).cell? ⟨w.heap.size, 0, none⟩ = some (.slice S Sn Sc) := (HK.out.bel HDa.out).cell 0
          clear hcell hx
          obtain ⟨q0, hq0⟩ : ∃ q, nameR a = q := ⟨_, rfl⟩
          have C0 := hide (fun w => sName a w HXs.out.1)
          rw [hq0] at C0
          have Q0 := hide hq0
          clear hq0
          cases q0
          · skip
            have hR : R = false := by
              refine no_of HQ (fun h => ?_)
              have h1 := h.im _ (List.mem_of_getElem? HXk.out)
              have h2 : impR Sn (a, c, i) = false := by simp [impR, Q0.out]
              change impR Sn (a, c, i) = true at h1
              rw [h2] at h1
              cases h1
            subst hR
            go_wp2_with fail
            refine (C0.out _).mono ?_
            rintro e v1 ⟨rfl, hb⟩
            have HDv1 := hide (bel_step HDa.out hb HDa.out.size)
            have HEv1 := hide (HEa.out.bel hb)
            have p01 : v1.cell? ⟨w.heap.size, 0, none⟩ = some (.slice S Sn Sc) := (HK.out.bel HDv1.out).cell 0
            have e10 : v1.cell? ⟨wr.heap.size, 0, none⟩ = some (.string a) := HEv1.out.cell 0
            have e11 : v1.cell? ⟨wr.heap.size, 1, none⟩ = some (.string c) := HEv1.out.cell 1
            have e12 : v1.cell? ⟨wr.heap.size, 2, none⟩ = some (.int .i64 i) := HEv1.out.cell 2
            clear hb
            go_wp2_with fail
            go_ret
            exact ⟨rfl, B0.out.trans (Below.mono HDv1.out B0.out.size)⟩
          · skip
            obtain ⟨q1, hq1⟩ : ∃ q, nameR c = q := ⟨_, rfl⟩
            have C1 := hide (fun w => sName c w HXs.out.2)
            rw [hq1] at C1
            have Q1 := hide hq1
            clear hq1
            cases q1
            · skip
              have hR : R = false := by
                refine no_of HQ (fun h => ?_)
                have h1 := h.im _ (List.mem_of_getElem? HXk.out)
                have h2 : impR Sn (a, c, i) = false := by simp [impR, Q0.out, Q1.out]
                change impR Sn (a, c, i) = true at h1
                rw [h2] at h1
                cases h1
              subst hR
              go_wp2_with fail
              refine (C0.out _).mono ?_
              rintro e v1 ⟨rfl, hb⟩
              have HDv1 := hide (bel_step HDa.out hb HDa.out.size)
              have HEv1 := hide (HEa.out.bel hb)
              have p01 : v1.cell? ⟨w.heap.size, 0, none⟩ = some (.slice S Sn Sc) := (HK.out.bel HDv1.out).cell 0
              have e10 : v1.cell? ⟨wr.heap.size, 0, none⟩ = some (.string a) := HEv1.out.cell 0
              have e11 : v1.cell? ⟨wr.heap.size, 1, none⟩ = some (.string c) := HEv1.out.cell 1
              have e12 : v1.cell? ⟨wr.heap.size, 2, none⟩ = some (.int .i64 i) := HEv1.out.cell 2
              clear hb
              go_wp2_with fail
              refine (C1.out _).mono ?_
              rintro e v2 ⟨rfl, hb⟩
              have HDv2 := hide (bel_step HDv1.out hb HDv1.out.size)
              have HEv2 := hide (HEv1.out.bel hb)
              have p02 : v2.cell? ⟨w.heap.size, 0, none⟩ = some (.slice S Sn Sc) := (HK.out.bel HDv2.out).cell 0
              have e20 : v2.cell? ⟨wr.heap.size, 0, none⟩ = some (.string a) := HEv2.out.cell 0
              have e21 : v2.cell? ⟨wr.heap.size, 1, none⟩ = some (.string c) := HEv2.out.cell 1
              have e22 : v2.cell? ⟨wr.heap.size, 2, none⟩ = some (.int .i64 i) := HEv2.out.cell 2
              clear hb
              go_wp2_with fail
              go_ret
              exact ⟨rfl, B0.out.trans (Below.mono HDv2.out B0.out.size)⟩
            · skip
              by_cases hc_2 : i < 0
              · skip
                have hR : R = false := by
                  refine no_of HQ (fun h => ?_)
                  have h1 := h.im _ (List.mem_of_getElem? HXk.out)
                  have h2 : impR Sn (a, c, i) = false := by simp [impR, Q0.out, Q1.out, inR_lo (hi := (Sn : Int) - 1) hc_2]
                  change impR Sn (a, c, i) = true at h1
                  rw [h2] at h1
                  cases h1
                subst hR
                go_wp2_with fail
                refine (C0.out _).mono ?_
                rintro e v1 ⟨rfl, hb⟩
                have HDv1 := hide (bel_step HDa.out hb HDa.out.size)
                have HEv1 := hide (HEa.out.bel hb)
                have p01 : v1.cell? ⟨w.heap.size, 0, none⟩ = some (.slice S Sn Sc) := (HK.out.bel HDv1.out).cell 0
                have e10 : v1.cell? ⟨wr.heap.size, 0, none⟩ = some (.string a) := HEv1.out.cell 0
                have e11 : v1.cell? ⟨wr.heap.size, 1, none⟩ = some (.string c) := HEv1.out.cell 1
                have e12 : v1.cell? ⟨wr.heap.size, 2, none⟩ = some (.int .i64 i) := HEv1.out.cell 2
                clear hb
                go_wp2_with fail
                refine (C1.out _).mono ?_
                rintro e v2 ⟨rfl, hb⟩
                have HDv2 := hide (bel_step HDv1.out hb HDv1.out.size)
                have HEv2 := hide (HEv1.out.bel hb)
                have p02 : v2.cell? ⟨w.heap.size, 0, none⟩ = some (.slice S Sn Sc) := (HK.out.bel HDv2.out).cell 0
                have e20 : v2.cell? ⟨wr.heap.size, 0, none⟩ = some (.string a) := HEv2.out.cell 0
                have e21 : v2.cell? ⟨wr.heap.size, 1, none⟩ = some (.string c) := HEv2.out.cell 1
                have e22 : v2.cell? ⟨wr.heap.size, 2, none⟩ = some (.int .i64 i) := HEv2.out.cell 2
                clear hb
                go_wp2_with fail
                go_ret
                exact ⟨rfl, B0.out.trans (Below.mono HDv2.out B0.out.size)⟩
              · have hg_2 : 0 ≤ i := by omega
                clear hc_2
                by_cases hc_3 : (Sn : Int) ≤ i
                · skip
                  have hR : R = false := by
                    refine no_of HQ (fun h => ?_)
                    have h1 := h.im _ (List.mem_of_getElem? HXk.out)
                    have h2 : impR Sn (a, c, i) = false := by simp [impR, Q0.out, Q1.out, inR_hi (lo := 0) (hi := (Sn : Int) - 1) (x := i) (by omega)]
                    change impR Sn (a, c, i) = true at h1
                    rw [h2] at h1
                    cases h1
                  subst hR
                  go_wp2_with fail
                  refine (C0.out _).mono ?_
                  rintro e v1 ⟨rfl, hb⟩
                  have HDv1 := hide (bel_step HDa.out hb HDa.out.size)
                  have HEv1 := hide (HEa.out.bel hb)
                  have p01 : v1.cell? ⟨w.heap.size, 0, none⟩ = some (.slice S Sn Sc) := (HK.out.bel HDv1.out).cell 0
                  have e10 : v1.cell? ⟨wr.heap.size, 0, none⟩ = some (.string a) := HEv1.out.cell 0
                  have e11 : v1.cell? ⟨wr.heap.size, 1, none⟩ = some (.string c) := HEv1.out.cell 1
                  have e12 : v1.cell? ⟨wr.heap.size, 2, none⟩ = some (.int .i64 i) := HEv1.out.cell 2
                  clear hb
                  go_wp2_with fail
                  refine (C1.out _).mono ?_
                  rintro e v2 ⟨rfl, hb⟩
                  have HDv2 := hide (bel_step HDv1.out hb HDv1.out.size)
                  have HEv2 := hide (HEv1.out.bel hb)
                  have p02 : v2.cell? ⟨w.heap.size, 0, none⟩ = some (.slice S Sn Sc) := (HK.out.bel HDv2.out).cell 0
                  have e20 : v2.cell? ⟨wr.heap.size, 0, none⟩ = some (.string a) := HEv2.out.cell 0
                  have e21 : v2.cell? ⟨wr.heap.size, 1, none⟩ = some (.string c) := HEv2.out.cell 1
                  have e22 : v2.cell? ⟨wr.heap.size, 2, none⟩ = some (.int .i64 i) := HEv2.out.cell 2
                  clear hb
                  go_wp2_with fail
                  go_ret
                  exact ⟨rfl, B0.out.trans (Below.mono HDv2.out B0.out.size)⟩
                · have hg_3 : i < (Sn : Int) := by omega
                  clear hc_3
                  have HO1 := hide (ok_step (p := impR Sn) HO.out HXk.out (show impR Sn (a, c, i) = true by simp [impR, Q0.out, Q1.out, inR_t (lo := 0) (hi := (Sn : Int) - 1) (x := i) hg_2 (by omega)]))
                  go_wp2_with fail
                  refine (C0.out _).mono ?_
                  rintro e v1 ⟨rfl, hb⟩
                  have HDv1 := hide (bel_step HDa.out hb HDa.out.size)
                  have HEv1 := hide (HEa.out.bel hb)
                  have p01 : v1.cell? ⟨w.heap.size, 0, none⟩ = some (.slice S Sn Sc) := (HK.out.bel HDv1.out).cell 0
                  have e10 : v1.cell? ⟨wr.heap.size, 0, none⟩ = some (.string a) := HEv1.out.cell 0
                  have e11 : v1.cell? ⟨wr.heap.size, 1, none⟩ = some (.string c) := HEv1.out.cell 1
                  have e12 : v1.cell? ⟨wr.heap.size, 2, none⟩ = some (.int .i64 i) := HEv1.out.cell 2
                  clear hb
                  go_wp2_with fail
                  refine (C1.out _).mono ?_
                  rintro e v2 ⟨rfl, hb⟩
                  have HDv2 := hide (bel_step HDv1.out hb HDv1.out.size)
                  have HEv2 := hide (HEv1.out.bel hb)
                  have p02 : v2.cell? ⟨w.heap.size, 0, none⟩ = some (.slice S Sn Sc) := (HK.out.bel HDv2.out).cell 0
                  have e20 : v2.cell? ⟨wr.heap.size, 0, none⟩ = some (.string a) := HEv2.out.cell 0
                  have e21 : v2.cell? ⟨wr.heap.size, 1, none⟩ = some (.string c) := HEv2.out.cell 1
                  have e22 : v2.cell? ⟨wr.heap.size, 2, none⟩ = some (.int .i64 i) := HEv2.out.cell 2
                  clear hb
                  go_wp2_with fail
                  go_roundw
                  case rel =>
                    first
                    | exact ⟨k + 1, by omega, by go_num, HO1, HDv2⟩
                  case measure => simp [intOf]; omega
        · obtain rfl : In = k := by omega
          have HAI := hide (ok_all (p := impR Sn) (rd_len impL (by omega) HR0.out.I) HO.out)
          have HDI := HD
          have hkn : decide ((In : Int) < In) = false := decide_eq_false (by omega)
          clear HD HO hk p0
          have p2 : wr.cell? ⟨w.heap.size, 2, none⟩ = some (.slice F Fn Fc) := (HK.out.bel HDI.out).cell 2
          go_wp2_with fail
          clear hkn
          go_loopw [83] (fun i wr => ∃ k : Nat, k ≤ Fn ∧ i = .int .i64 k ∧ Hid (∀ j x, j < k → funs[j]? = some x → funR Sn x.pl = true) ∧ Hid (Below W0.heap.size W0 wr)) (fun i _ => Fn - (intOf i).toNat)
          case atStart => exact ⟨0, Nat.zero_le _, rfl, hide (fun j x hj => by omega), HDI⟩
          case round =>
            obtain ⟨k, hk, rfl, HO, HD⟩ := hrel
            have p0 : wr.cell? ⟨w.heap.size, 0, none⟩ = some (.slice S Sn Sc) := (HK.out.bel HD.out).cell 0
            have hz : w.heap.size < wr.heap.size := Nat.lt_of_lt_of_le HK.out.lt HD.out.size
            by_cases hlt : k < Fn
            · obtain ⟨b, off, x, rfl, hx, hbg, hcell⟩ := rd_get (wr := wr) funL (by omega) HR0.out.F k hlt (fun p hp => HD.out.cell hp)
              have HXk := hide hx
              have HXb := hide (show _ ∧ _ from ⟨HR0.out.FB x (List.mem_of_getElem? hx), HX.out.FS x (List.mem_of_getElem? hx)⟩)
              obtain ⟨p, r, ⟨A2, n2, c2⟩, bd⟩ := x
              have hc0 : wr.cell? ⟨b, off + k * 3, none⟩ = some (.int .i64 p) := hcell 0 _ rfl
              have hc1 : wr.cell? ⟨b, off + k * 3 + 1, none⟩ = some (.int .i64 r) := hcell 1 _ rfl
              have hc2 : wr.cell? ⟨b, off + k * 3 + 2, none⟩ = some (.slice A2 n2 c2) := hcell 2 _ rfl
              have hi0 : (0 : Int) ≤ k := by omega
              have hi1 : (k : Int) < Fn := by omega
              have HDa := hide (HD.out.alloc HD.out.size (.cells #[.int .i64 p, .int .i64 r, .slice A2 n2 c2] 84))
              have HEa := hide (Blk.new wr #[.int .i64 p, .int .i64 r, .slice A2 n2 c2] 84)
              have pa : (wr.alloc (.cells #[.int .i64 p, .int .i64 r, .slice A2 n2 c2] 84)).cell? ⟨w.heap.size, 0, none⟩ = some (.slice S Sn Sc) := (HK.out.bel HDa.out).cell 0
              clear hcell hx
              have hbl : bd.length = n2 := rd_ins HXb.out.1
              have hn2 : (n2 : Int) ≤ 1048576 := HXb.out.2
              have HBL := hide hbl
              clear hbl
              by_cases hc_0 : p < 0
              · skip
                have hR : R = false := by
                  refine no_of HQ (fun h => ?_)
                  have h1 := h.fu _ (List.mem_of_getElem? HXk.out)
                  have h2 : funR Sn (p, r, bd) = false := by simp [funR, inR_lo (hi := (Sn : Int) - 1) hc_0]
                  change funR Sn (p, r, bd) = true at h1
                  rw [h2] at h1
                  cases h1
                subst hR
                go_wp2_with fail
                go_ret
                exact ⟨rfl, B0.out.trans (Below.mono HDa.out B0.out.size)⟩
              · have hg_0 : 0 ≤ p := by omega
                clear hc_0
                by_cases hc_1 : (Sn : Int) ≤ p
                · skip
                  have hR : R = false := by
                    refine no_of HQ (fun h => ?_)
                    have h1 := h.fu _ (List.mem_of_getElem? HXk.out)
                    have h2 : funR Sn (p, r, bd) = false := by simp [funR, inR_hi (lo := 0) (hi := (Sn : Int) - 1) (x := p) (by omega)]
                    change funR Sn (p, r, bd) = true at h1
                    rw [h2] at h1
                    cases h1
                  subst hR
                  go_wp2_with fail
                  go_ret
                  exact ⟨rfl, B0.out.trans (Below.mono HDa.out B0.out.size)⟩
                · have hg_1 : p < (Sn : Int) := by omega
                  clear hc_1
                  by_cases hc_2 : r < 0
                  · skip
                    have hR : R = false := by
                      refine no_of HQ (fun h => ?_)
                      have h1 := h.fu _ (List.mem_of_getElem? HXk.out)
                      have h2 : funR Sn (p, r, bd) = false := by simp [funR, inR_t (lo := 0) (hi := (Sn : Int) - 1) (x := p) hg_0 (by omega), inR_lo (hi := 60) hc_2]
                      change funR Sn (p, r, bd) = true at h1
                      rw [h2] at h1
                      cases h1
                    subst hR
                    go_wp2_with fail
                    go_ret
                    exact ⟨rfl, B0.out.trans (Below.mono HDa.out B0.out.size)⟩
                  · have hg_2 : 0 ≤ r := by omega
                    clear hc_2
                    by_cases hc_3 : 60 < r
                    · skip
                      have hR : R = false := by
                        refine no_of HQ (fun h => ?_)
                        have h1 := h.fu _ (List.mem_of_getElem? HXk.out)
                        have h2 : funR Sn (p, r, bd) = false := by simp [funR, inR_t (lo := 0) (hi := (Sn : Int) - 1) (x := p) hg_0 (by omega), inR_hi (lo := 0) hc_3]
                        change funR Sn (p, r, bd) = true at h1
                        rw [h2] at h1
                        cases h1
                      subst hR
                      go_wp2_with fail
                      go_ret
                      exact ⟨rfl, B0.out.trans (Below.mono HDa.out B0.out.size)⟩
                    · have hg_3 : r ≤ 60 := by omega
                      clear hc_3
                      obtain ⟨q4, hq4⟩ : ∃ q, bodyR bd = q := ⟨_, rfl⟩
                      have C4 := hide (fun w hr => sBody A2 n2 c2 bd w hr (by have := HXb.out.2; simp only [] at this; omega))
                      rw [hq4] at C4
                      have Q4 := hide hq4
                      clear hq4
                      cases q4
                      · skip
                        have hR : R = false := by
                          refine no_of HQ (fun h => ?_)
                          have h1 := h.fu _ (List.mem_of_getElem? HXk.out)
                          have h2 : funR Sn (p, r, bd) = false := by simp [funR, inR_t (lo := 0) (hi := (Sn : Int) - 1) (x := p) hg_0 (by omega), inR_t (lo := 0) hg_2 hg_3, Q4.out]
                          change funR Sn (p, r, bd) = true at h1
                          rw [h2] at h1
                          cases h1
                        subst hR
                        go_wp2_with fail
                        refine (C4.out _ (HXb.out.1.bel HDa.out)).mono ?_
                        rintro e v1 ⟨rfl, hb⟩
                        have HDv1 := hide (bel_step HDa.out hb HDa.out.size)
                        have HEv1 := hide (HEa.out.bel hb)
                        have p01 : v1.cell? ⟨w.heap.size, 0, none⟩ = some (.slice S Sn Sc) := (HK.out.bel HDv1.out).cell 0
                        have e10 : v1.cell? ⟨wr.heap.size, 0, none⟩ = some (.int .i64 p) := HEv1.out.cell 0
                        have e11 : v1.cell? ⟨wr.heap.size, 1, none⟩ = some (.int .i64 r) := HEv1.out.cell 1
                        have e12 : v1.cell? ⟨wr.heap.size, 2, none⟩ = some (.slice A2 n2 c2) := HEv1.out.cell 2
                        clear hb
                        go_wp2_with fail
                        go_ret
                        exact ⟨rfl, B0.out.trans (Below.mono HDv1.out B0.out.size)⟩
                      · skip
                        have HO1 := hide (ok_step (p := (fun x : FV => funR Sn x.pl)) HO.out HXk.out (show funR Sn (p, r, bd) = true by simp [funR, inR_t (lo := 0) (hi := (Sn : Int) - 1) (x := p) hg_0 (by omega), inR_t (lo := 0) hg_2 hg_3, Q4.out]))
                        go_wp2_with fail
                        refine (C4.out _ (HXb.out.1.bel HDa.out)).mono ?_
                        rintro e v1 ⟨rfl, hb⟩
                        have HDv1 := hide (bel_step HDa.out hb HDa.out.size)
                        have HEv1 := hide (HEa.out.bel hb)
                        have p01 : v1.cell? ⟨w.heap.size, 0, none⟩ = some (.slice S Sn Sc) := (HK.out.bel HDv1.out).cell 0
                        have e10 : v1.cell? ⟨wr.heap.size, 0, none⟩ = some (.int .i64 p) := HEv1.out.cell 0
                        have e11 : v1.cell? ⟨wr.heap.size, 1, none⟩ = some (.int .i64 r) := HEv1.out.cell 1
                        have e12 : v1.cell? ⟨wr.heap.size, 2, none⟩ = some (.slice A2 n2 c2) := HEv1.out.cell 2
                        clear hb
                        go_wp2_with fail
                        go_roundw
                        case rel =>
                          first
                          | exact ⟨k + 1, by omega, by go_num, HO1, HDv1⟩
                        case measure => simp [intOf]; omega
            · obtain rfl : Fn = k := by omega
              have HAF := hide (ok_all (p := (fun x : FV => funR Sn x.pl)) (rd_len funL (by omega) HR0.out.F) HO.out)
              have HDF := HD
              have hkn : decide ((Fn : Int) < Fn) = false := decide_eq_false (by omega)
              clear HD HO hk p0
              have hR : R = true := yes_of HQ ⟨HA1.out, HA2.out, HAS.out, HAI.out, HAF.out⟩
              subst hR
              go_wp2_with fail
              go_ret
              exact ⟨rfl, B0.out.trans (HDF.out.mono B0.out.size)⟩
end Go.Proofs.YtiinkfejdnfonaaGreatDoor.Mo
