/- The laws' own sizes, copies and comparisons of a module's lists: a contract each. -/
import Derived.Test.YtiinkfejdnfonaaGreatDoorChecked
import Derived.Test.YtiinkfejdnfonaaGreatDoorModN
import Derived.WalkSpells
import Derived.Deep.QuietTactic
import Derived.BigQuiet
import Derived.StillTailTactics
namespace Go.Proofs.YtiinkfejdnfonaaGreatDoor.Mo
open Go.RowKit Go.Proofs.YtiinkfejdnfonaaGreatDoor.Num Go.Proofs.YtiinkfejdnfonaaGreatDoor.Mem Go.Proofs.YtiinkfejdnfonaaGreatDoor.Shape
set_option linter.unusedVariables false
/-- what a size's reckoning leaves -/
def SzR (left : Int) (F : Prop) (w : World) (e : Ending) (w' : World) : Prop := (e = .returned (.int .i64 (-1)) ∨ ∃ r : Int, 0 ≤ r ∧ r ≤ left ∧ F ∧ e = .returned (.int .i64 r)) ∧ Below w.heap.size w w'
theorem szSigS_c (A : Option Addr) (n c : Nat) (left : Int) (w : World) (hn : n ≤ 9223372036854775807) (h0 : 0 ≤ left) (h1 : left ≤ 1048576) :
    Calls Tryz.prog 16 #[.slice A n c, .int .i64 left] w (SzR left (n ≤ 1048576) w) := by
  have hn' : (n : Int) ≤ 9223372036854775807 := by omega
  clear hn
  by_cases h : left < n
  · have h2 : left - n < 0 := by omega
    go_enter Tryz.func16, Tryz.ntmps16
    go_wp2_with fail
    go_ret
    exact ⟨.inl rfl, Below.refl _ _⟩
  · have h2 : 0 ≤ left - n := by omega
    go_enter Tryz.func16, Tryz.ntmps16
    go_wp2_with fail
    go_ret
    exact ⟨.inr ⟨_, h2, by omega, by omega, rfl⟩, Below.refl _ _⟩
theorem szGlobalS_c (A : Option Addr) (n c : Nat) (left : Int) (w : World) (hn : n ≤ 9223372036854775807) (h0 : 0 ≤ left) (h1 : left ≤ 1048576) :
    Calls Tryz.prog 19 #[.slice A n c, .int .i64 left] w (SzR left (n ≤ 1048576) w) := by
  have hn' : (n : Int) ≤ 9223372036854775807 := by omega
  clear hn
  by_cases h : left < n
  · have h2 : left - n < 0 := by omega
    go_enter Tryz.func19, Tryz.ntmps19
    go_wp2_with fail
    go_ret
    exact ⟨.inl rfl, Below.refl _ _⟩
  · have h2 : 0 ≤ left - n := by omega
    go_enter Tryz.func19, Tryz.ntmps19
    go_wp2_with fail
    go_ret
    exact ⟨.inr ⟨_, h2, by omega, by omega, rfl⟩, Below.refl _ _⟩
theorem szImport_c (m x : ByteArray) (i : Int) (left : Int) (w : World) (l0 : (m.size : Int) ≤ 9223372036854775807) (l1 : (x.size : Int) ≤ 9223372036854775807) (h0 : 0 ≤ left) (h1 : left ≤ 1048576) :
    Calls Tryz.prog 70 #[.agg #[.string m, .string x, .int .i64 i], .int .i64 left] w (SzR left ((m.size : Int) ≤ 1048576 ∧ (x.size : Int) ≤ 1048576) w) := by
  by_cases h : left < m.size
  · have h2 : left - m.size < 0 := by omega
    go_enter Tryz.func70, Tryz.ntmps70
    go_wp2_with fail
    go_ret
    exact ⟨.inl rfl, by repeat (first | exact Below.refl _ _ | refine bel_drewN ?_ _ | refine Below.setCell ?_ (by simp <;> omega) _ | refine Below.alloc ?_ (by simp <;> omega) _)⟩
  · have h2 : 0 ≤ left - m.size := by omega
    by_cases h3 : left - m.size < x.size
    · have h4 : left - m.size - x.size < 0 := by omega
      go_enter Tryz.func70, Tryz.ntmps70
      go_wp2_with fail
      go_ret
      exact ⟨.inl rfl, by repeat (first | exact Below.refl _ _ | refine bel_drewN ?_ _ | refine Below.setCell ?_ (by simp <;> omega) _ | refine Below.alloc ?_ (by simp <;> omega) _)⟩
    · have h4 : 0 ≤ left - m.size - x.size := by omega
      go_enter Tryz.func70, Tryz.ntmps70
      go_wp2_with fail
      go_ret
      exact ⟨.inr ⟨_, h4, by omega, ⟨by omega, by omega⟩, rfl⟩, by repeat (first | exact Below.refl _ _ | refine bel_drewN ?_ _ | refine Below.setCell ?_ (by simp <;> omega) _ | refine Below.alloc ?_ (by simp <;> omega) _)⟩
theorem szExport_c (x : ByteArray) (q i : Int) (left : Int) (w : World) (l0 : (x.size : Int) ≤ 9223372036854775807) (h0 : 0 ≤ left) (h1 : left ≤ 1048576) :
    Calls Tryz.prog 72 #[.agg #[.string x, .int .i64 q, .int .i64 i], .int .i64 left] w (SzR left ((x.size : Int) ≤ 1048576) w) := by
  by_cases h : left < x.size
  · have h2 : left - x.size < 0 := by omega
    go_enter Tryz.func72, Tryz.ntmps72
    go_wp2_with fail
    go_ret
    exact ⟨.inl rfl, by repeat (first | exact Below.refl _ _ | refine bel_drewN ?_ _ | refine Below.setCell ?_ (by simp <;> omega) _ | refine Below.alloc ?_ (by simp <;> omega) _)⟩
  · have h2 : 0 ≤ left - x.size := by omega
    go_enter Tryz.func72, Tryz.ntmps72
    go_wp2_with fail
    go_ret
    exact ⟨.inr ⟨_, h2, by omega, by omega, rfl⟩, by repeat (first | exact Below.refl _ _ | refine bel_drewN ?_ _ | refine Below.setCell ?_ (by simp <;> omega) _ | refine Below.alloc ?_ (by simp <;> omega) _)⟩
theorem szInsS_r (A : Option Addr) (n c : Nat) (left : Int) (w : World) (hn : n ≤ 9223372036854775807) (h0 : 0 ≤ left) (h1 : left ≤ 1048576) :
    Calls Tryz.prog 102 #[.slice A n c, .int .i64 left] w (SzR left (n ≤ 1048576) w) :=
  (szInsS_c A n c left w hn h0 h1).mono fun e w' h => by
    obtain ⟨h, rfl⟩ := h
    rcases h with ⟨_, rfl⟩ | ⟨h, rfl⟩
    · exact ⟨.inl rfl, Below.refl _ _⟩
    · exact ⟨.inr ⟨_, by omega, by omega, by omega, rfl⟩, Below.refl _ _⟩
theorem szByteS_c (A : Option Addr) (n c : Nat) (left : Int) (w : World) (hn : n ≤ 9223372036854775807) (h0 : 0 ≤ left) (h1 : left ≤ 1048576) :
    Calls Tryz.prog 103 #[.slice A n c, .int .i64 left] w (SzR left (n ≤ 1048576) w) := by
  have hn' : (n : Int) ≤ 9223372036854775807 := by omega
  clear hn
  by_cases h : left < n
  · have h2 : left - n < 0 := by omega
    go_enter Tryz.func103, Tryz.ntmps103
    go_wp2_with fail
    go_ret
    exact ⟨.inl rfl, Below.refl _ _⟩
  · have h2 : 0 ≤ left - n := by omega
    go_enter Tryz.func103, Tryz.ntmps103
    go_wp2_with fail
    go_ret
    exact ⟨.inr ⟨_, h2, by omega, by omega, rfl⟩, Below.refl _ _⟩
theorem szFunc_c (s o : Int) (A : Option Addr) (n c : Nat) (left : Int) (w : World) (l0 : (n : Int) ≤ 9223372036854775807) (h0 : 0 ≤ left) (h1 : left ≤ 1048576) :
    Calls Tryz.prog 71 #[.agg #[.int .i64 s, .int .i64 o, .slice A n c], .int .i64 left] w (SzR left ((n : Int) ≤ 1048576) w) := by
  have HN := hide (show n ≤ 9223372036854775807 by omega)
  clear l0
  go_enter Tryz.func71, Tryz.ntmps71
  go_wp2_with fail
  refine (szInsS_r _ _ _ left _ HN.out h0 h1).mono ?_
  rintro e w1 ⟨h, hb⟩
  have HB := hide (show Below w.heap.size w w1 by
    refine Below.trans ?_ (hb.mono (by simp <;> omega))
    repeat (first | exact Below.refl _ _ | refine bel_drewN ?_ _ | refine Below.setCell ?_ (by simp <;> omega) _ | refine Below.alloc ?_ (by simp <;> omega) _))
  clear hb
  rcases h with rfl | ⟨r, hr0, hr1, hF, rfl⟩
  · go_wp2_with fail
    go_ret
    exact ⟨.inl rfl, HB.out⟩
  · go_wp2_with fail
    go_ret
    exact ⟨.inr ⟨r, hr0, hr1, by omega, rfl⟩, HB.out⟩
theorem szData_c (o : Int) (A : Option Addr) (n c : Nat) (left : Int) (w : World) (l0 : (n : Int) ≤ 9223372036854775807) (h0 : 0 ≤ left) (h1 : left ≤ 1048576) :
    Calls Tryz.prog 73 #[.agg #[.int .i64 o, .slice A n c], .int .i64 left] w (SzR left ((n : Int) ≤ 1048576) w) := by
  have HN := hide (show n ≤ 9223372036854775807 by omega)
  clear l0
  go_enter Tryz.func73, Tryz.ntmps73
  go_wp2_with fail
  refine (szByteS_c _ _ _ left _ HN.out h0 h1).mono ?_
  rintro e w1 ⟨h, hb⟩
  have HB := hide (show Below w.heap.size w w1 by
    refine Below.trans ?_ (hb.mono (by simp <;> omega))
    repeat (first | exact Below.refl _ _ | refine bel_drewN ?_ _ | refine Below.setCell ?_ (by simp <;> omega) _ | refine Below.alloc ?_ (by simp <;> omega) _))
  clear hb
  rcases h with rfl | ⟨r, hr0, hr1, hF, rfl⟩
  · go_wp2_with fail
    go_ret
    exact ⟨.inl rfl, HB.out⟩
  · go_wp2_with fail
    go_ret
    exact ⟨.inr ⟨r, hr0, hr1, by omega, rfl⟩, HB.out⟩
set_option maxRecDepth 100000 in
theorem szImportS_c (A : Option Addr) (n c : Nat) (l : List Imp3) (left : Int) (w : World) (hr : Rd w w.heap.size 3 A n (fl impC l)) (hn : n ≤ 9223372036854775807) (hG : ∀ x ∈ l, (x.1.size : Int) ≤ 9223372036854775807 ∧ (x.2.1.size : Int) ≤ 9223372036854775807) (h0 : 0 ≤ left) (h1 : left ≤ 1048576) :
    Calls Tryz.prog 17 #[.slice A n c, .int .i64 left] w (SzR left (n ≤ 1048576 ∧ ∀ x ∈ l, (x.1.size : Int) ≤ 1048576 ∧ (x.2.1.size : Int) ≤ 1048576) w) := by
  have hn' : (n : Int) ≤ 9223372036854775807 := by omega
  have HR := hide hr
  have HL := hide (rd_len impL (by omega) hr)
  have HG := hide hG
  clear hn hr hG
  by_cases h : left < n
  · have h2 : left - n < 0 := by omega
    go_enter Tryz.func17, Tryz.ntmps17
    go_wp2_with fail
    go_ret
    exact ⟨.inl rfl, Below.refl _ _⟩
  · obtain ⟨l2, hl2⟩ : ∃ l2 : Int, left - n = l2 := ⟨_, rfl⟩
    have h2 : 0 ≤ l2 := by omega
    have h3 : l2 ≤ 1048576 := by omega
    have HN := hide (show n ≤ 1048576 ∧ l2 ≤ left from ⟨by omega, by omega⟩)
    go_enter Tryz.func17, Tryz.ntmps17
    go_wp2_with fail
    clear hl2 h
    go_loopw [1, 5] (fun s i wr => ∃ (k : Nat) (q : Int), k ≤ n ∧ i = .int .i64 k ∧ s = .int .i64 q ∧ 0 ≤ q ∧ q ≤ l2 ∧ Hid (∀ j x, j < k → l[j]? = some x → (x.1.size : Int) ≤ 1048576 ∧ (x.2.1.size : Int) ≤ 1048576) ∧ Hid (Below w.heap.size w wr)) (fun _ i _ => n - (intOf i).toNat)
    case atStart => exact ⟨0, l2, Nat.zero_le _, rfl, rfl, h2, Int.le_refl _, hide (fun j x hj => by omega), hide (Below.refl _ _)⟩
    case round =>
      obtain ⟨k, q, hk, rfl, rfl, hq0, hq1, HE, HB⟩ := hrel
      have hq2 : q ≤ 1048576 := by omega
      by_cases hlt : k < n
      · obtain ⟨b, off, x, rfl, hx, hbg, hcell⟩ := rd_get (wr := wr) impL (by omega) HR.out k hlt (fun p hp => HB.out.cell hp)
        have G1 := hide (HG.out x (List.mem_of_getElem? hx))
        have HXk := hide hx
        obtain ⟨m, y, i⟩ := x
        clear hx
        have hc0 : wr.cell? ⟨b, off + k * 3, none⟩ = some (.string m) := hcell 0 _ rfl
        have hc1 : wr.cell? ⟨b, off + k * 3 + 1, none⟩ = some (.string y) := hcell 1 _ rfl
        have hc2 : wr.cell? ⟨b, off + k * 3 + 2, none⟩ = some (.int .i64 i) := hcell 2 _ rfl
        have hi0 : (0 : Int) ≤ k := by omega
        have hi1 : (k : Int) < n := by omega
        clear hcell
        go_wp2_with fail
        refine (szImport_c _ _ _ q wr G1.out.1 G1.out.2 hq0 hq2).mono ?_
        rintro e w1 ⟨h, hb⟩
        have HB1 := hide (bel_step HB.out hb HB.out.size)
        clear hb
        rcases h with rfl | ⟨r, hr0, hr1, hF, rfl⟩
        · go_wp2_with fail
          go_ret
          exact ⟨.inl rfl, HB1.out⟩
        · have HF := hide hF
          clear hF
          go_wp2_with fail
          go_roundw
          case rel =>
            refine ⟨k + 1, r, by omega, by go_num, rfl, hr0, by omega, hide (fun j x hj hx => ?_), HB1⟩
            by_cases hjk : j < k
            · exact HE.out j x hjk hx
            · obtain rfl : j = k := by omega
              rw [HXk.out] at hx
              injection hx with hx
              subst hx
              exact HF.out
          case measure => simp [intOf]; omega
      · obtain rfl : k = n := by omega
        go_wp2_with fail
        go_ret
        refine ⟨.inr ⟨q, hq0, by have := HN.out; omega, ⟨HN.out.1, fun x hx => ?_⟩, rfl⟩, HB.out⟩
        obtain ⟨j, hj, hjx⟩ := List.getElem_of_mem hx
        exact HE.out j x (by have := HL.out; omega) (by rw [List.getElem?_eq_getElem hj, hjx])
set_option maxRecDepth 100000 in
theorem szExportS_c (A : Option Addr) (n c : Nat) (l : List Exp3) (left : Int) (w : World) (hr : Rd w w.heap.size 3 A n (fl expC l)) (hn : n ≤ 9223372036854775807) (hG : ∀ x ∈ l, (x.1.size : Int) ≤ 9223372036854775807) (h0 : 0 ≤ left) (h1 : left ≤ 1048576) :
    Calls Tryz.prog 20 #[.slice A n c, .int .i64 left] w (SzR left (n ≤ 1048576 ∧ ∀ x ∈ l, (x.1.size : Int) ≤ 1048576) w) := by
  have hn' : (n : Int) ≤ 9223372036854775807 := by omega
  have HR := hide hr
  have HL := hide (rd_len expL (by omega) hr)
  have HG := hide hG
  clear hn hr hG
  by_cases h : left < n
  · have h2 : left - n < 0 := by omega
    go_enter Tryz.func20, Tryz.ntmps20
    go_wp2_with fail
    go_ret
    exact ⟨.inl rfl, Below.refl _ _⟩
  · obtain ⟨l2, hl2⟩ : ∃ l2 : Int, left - n = l2 := ⟨_, rfl⟩
    have h2 : 0 ≤ l2 := by omega
    have h3 : l2 ≤ 1048576 := by omega
    have HN := hide (show n ≤ 1048576 ∧ l2 ≤ left from ⟨by omega, by omega⟩)
    go_enter Tryz.func20, Tryz.ntmps20
    go_wp2_with fail
    clear hl2 h
    go_loopw [1, 5] (fun s i wr => ∃ (k : Nat) (q : Int), k ≤ n ∧ i = .int .i64 k ∧ s = .int .i64 q ∧ 0 ≤ q ∧ q ≤ l2 ∧ Hid (∀ j x, j < k → l[j]? = some x → (x.1.size : Int) ≤ 1048576) ∧ Hid (Below w.heap.size w wr)) (fun _ i _ => n - (intOf i).toNat)
    case atStart => exact ⟨0, l2, Nat.zero_le _, rfl, rfl, h2, Int.le_refl _, hide (fun j x hj => by omega), hide (Below.refl _ _)⟩
    case round =>
      obtain ⟨k, q, hk, rfl, rfl, hq0, hq1, HE, HB⟩ := hrel
      have hq2 : q ≤ 1048576 := by omega
      by_cases hlt : k < n
      · obtain ⟨b, off, x, rfl, hx, hbg, hcell⟩ := rd_get (wr := wr) expL (by omega) HR.out k hlt (fun p hp => HB.out.cell hp)
        have G1 := hide (HG.out x (List.mem_of_getElem? hx))
        have HXk := hide hx
        obtain ⟨y, q2, i⟩ := x
        clear hx
        have hc0 : wr.cell? ⟨b, off + k * 3, none⟩ = some (.string y) := hcell 0 _ rfl
        have hc1 : wr.cell? ⟨b, off + k * 3 + 1, none⟩ = some (.int .i64 q2) := hcell 1 _ rfl
        have hc2 : wr.cell? ⟨b, off + k * 3 + 2, none⟩ = some (.int .i64 i) := hcell 2 _ rfl
        have hi0 : (0 : Int) ≤ k := by omega
        have hi1 : (k : Int) < n := by omega
        clear hcell
        go_wp2_with fail
        refine (szExport_c _ _ _ q wr G1.out hq0 hq2).mono ?_
        rintro e w1 ⟨h, hb⟩
        have HB1 := hide (bel_step HB.out hb HB.out.size)
        clear hb
        rcases h with rfl | ⟨r, hr0, hr1, hF, rfl⟩
        · go_wp2_with fail
          go_ret
          exact ⟨.inl rfl, HB1.out⟩
        · have HF := hide hF
          clear hF
          go_wp2_with fail
          go_roundw
          case rel =>
            refine ⟨k + 1, r, by omega, by go_num, rfl, hr0, by omega, hide (fun j x hj hx => ?_), HB1⟩
            by_cases hjk : j < k
            · exact HE.out j x hjk hx
            · obtain rfl : j = k := by omega
              rw [HXk.out] at hx
              injection hx with hx
              subst hx
              exact HF.out
          case measure => simp [intOf]; omega
      · obtain rfl : k = n := by omega
        go_wp2_with fail
        go_ret
        refine ⟨.inr ⟨q, hq0, by have := HN.out; omega, ⟨HN.out.1, fun x hx => ?_⟩, rfl⟩, HB.out⟩
        obtain ⟨j, hj, hjx⟩ := List.getElem_of_mem hx
        exact HE.out j x (by have := HL.out; omega) (by rw [List.getElem?_eq_getElem hj, hjx])
set_option maxRecDepth 100000 in
theorem szFuncS_c (A : Option Addr) (n c : Nat) (l : List FV) (left : Int) (w : World) (hr : Rd w w.heap.size 3 A n (fl funC l)) (hn : n ≤ 9223372036854775807) (hG : ∀ x ∈ l, (x.hd.2.1 : Int) ≤ 9223372036854775807) (h0 : 0 ≤ left) (h1 : left ≤ 1048576) :
    Calls Tryz.prog 18 #[.slice A n c, .int .i64 left] w (SzR left (n ≤ 1048576 ∧ ∀ x ∈ l, (x.hd.2.1 : Int) ≤ 1048576) w) := by
  have hn' : (n : Int) ≤ 9223372036854775807 := by omega
  have HR := hide hr
  have HL := hide (rd_len funL (by omega) hr)
  have HG := hide hG
  clear hn hr hG
  by_cases h : left < n
  · have h2 : left - n < 0 := by omega
    go_enter Tryz.func18, Tryz.ntmps18
    go_wp2_with fail
    go_ret
    exact ⟨.inl rfl, Below.refl _ _⟩
  · obtain ⟨l2, hl2⟩ : ∃ l2 : Int, left - n = l2 := ⟨_, rfl⟩
    have h2 : 0 ≤ l2 := by omega
    have h3 : l2 ≤ 1048576 := by omega
    have HN := hide (show n ≤ 1048576 ∧ l2 ≤ left from ⟨by omega, by omega⟩)
    go_enter Tryz.func18, Tryz.ntmps18
    go_wp2_with fail
    clear hl2 h
    go_loopw [1, 5] (fun s i wr => ∃ (k : Nat) (q : Int), k ≤ n ∧ i = .int .i64 k ∧ s = .int .i64 q ∧ 0 ≤ q ∧ q ≤ l2 ∧ Hid (∀ j x, j < k → l[j]? = some x → (x.hd.2.1 : Int) ≤ 1048576) ∧ Hid (Below w.heap.size w wr)) (fun _ i _ => n - (intOf i).toNat)
    case atStart => exact ⟨0, l2, Nat.zero_le _, rfl, rfl, h2, Int.le_refl _, hide (fun j x hj => by omega), hide (Below.refl _ _)⟩
    case round =>
      obtain ⟨k, q, hk, rfl, rfl, hq0, hq1, HE, HB⟩ := hrel
      have hq2 : q ≤ 1048576 := by omega
      by_cases hlt : k < n
      · obtain ⟨b, off, x, rfl, hx, hbg, hcell⟩ := rd_get (wr := wr) funL (by omega) HR.out k hlt (fun p hp => HB.out.cell hp)
        have G1 := hide (HG.out x (List.mem_of_getElem? hx))
        have HXk := hide hx
        obtain ⟨s2, o, ⟨A2, n2, c2⟩, bd⟩ := x
        clear hx
        have hc0 : wr.cell? ⟨b, off + k * 3, none⟩ = some (.int .i64 s2) := hcell 0 _ rfl
        have hc1 : wr.cell? ⟨b, off + k * 3 + 1, none⟩ = some (.int .i64 o) := hcell 1 _ rfl
        have hc2 : wr.cell? ⟨b, off + k * 3 + 2, none⟩ = some (.slice A2 n2 c2) := hcell 2 _ rfl
        have hi0 : (0 : Int) ≤ k := by omega
        have hi1 : (k : Int) < n := by omega
        clear hcell
        go_wp2_with fail
        refine (szFunc_c _ _ _ _ _ q wr G1.out hq0 hq2).mono ?_
        rintro e w1 ⟨h, hb⟩
        have HB1 := hide (bel_step HB.out hb HB.out.size)
        clear hb
        rcases h with rfl | ⟨r, hr0, hr1, hF, rfl⟩
        · go_wp2_with fail
          go_ret
          exact ⟨.inl rfl, HB1.out⟩
        · have HF := hide hF
          clear hF
          go_wp2_with fail
          go_roundw
          case rel =>
            refine ⟨k + 1, r, by omega, by go_num, rfl, hr0, by omega, hide (fun j x hj hx => ?_), HB1⟩
            by_cases hjk : j < k
            · exact HE.out j x hjk hx
            · obtain rfl : j = k := by omega
              rw [HXk.out] at hx
              injection hx with hx
              subst hx
              exact HF.out
          case measure => simp [intOf]; omega
      · obtain rfl : k = n := by omega
        go_wp2_with fail
        go_ret
        refine ⟨.inr ⟨q, hq0, by have := HN.out; omega, ⟨HN.out.1, fun x hx => ?_⟩, rfl⟩, HB.out⟩
        obtain ⟨j, hj, hjx⟩ := List.getElem_of_mem hx
        exact HE.out j x (by have := HL.out; omega) (by rw [List.getElem?_eq_getElem hj, hjx])
set_option maxRecDepth 100000 in
theorem szDataS_c (A : Option Addr) (n c : Nat) (l : List DV) (left : Int) (w : World) (hr : Rd w w.heap.size 2 A n (fl datC l)) (hn : n ≤ 9223372036854775807) (hG : ∀ x ∈ l, (x.hd.2.1 : Int) ≤ 9223372036854775807) (h0 : 0 ≤ left) (h1 : left ≤ 1048576) :
    Calls Tryz.prog 21 #[.slice A n c, .int .i64 left] w (SzR left (n ≤ 1048576 ∧ ∀ x ∈ l, (x.hd.2.1 : Int) ≤ 1048576) w) := by
  have hn' : (n : Int) ≤ 9223372036854775807 := by omega
  have HR := hide hr
  have HL := hide (rd_len datL (by omega) hr)
  have HG := hide hG
  clear hn hr hG
  by_cases h : left < n
  · have h2 : left - n < 0 := by omega
    go_enter Tryz.func21, Tryz.ntmps21
    go_wp2_with fail
    go_ret
    exact ⟨.inl rfl, Below.refl _ _⟩
  · obtain ⟨l2, hl2⟩ : ∃ l2 : Int, left - n = l2 := ⟨_, rfl⟩
    have h2 : 0 ≤ l2 := by omega
    have h3 : l2 ≤ 1048576 := by omega
    have HN := hide (show n ≤ 1048576 ∧ l2 ≤ left from ⟨by omega, by omega⟩)
    go_enter Tryz.func21, Tryz.ntmps21
    go_wp2_with fail
    clear hl2 h
    go_loopw [1, 5] (fun s i wr => ∃ (k : Nat) (q : Int), k ≤ n ∧ i = .int .i64 k ∧ s = .int .i64 q ∧ 0 ≤ q ∧ q ≤ l2 ∧ Hid (∀ j x, j < k → l[j]? = some x → (x.hd.2.1 : Int) ≤ 1048576) ∧ Hid (Below w.heap.size w wr)) (fun _ i _ => n - (intOf i).toNat)
    case atStart => exact ⟨0, l2, Nat.zero_le _, rfl, rfl, h2, Int.le_refl _, hide (fun j x hj => by omega), hide (Below.refl _ _)⟩
    case round =>
      obtain ⟨k, q, hk, rfl, rfl, hq0, hq1, HE, HB⟩ := hrel
      have hq2 : q ≤ 1048576 := by omega
      by_cases hlt : k < n
      · obtain ⟨b, off, x, rfl, hx, hbg, hcell⟩ := rd_get (wr := wr) datL (by omega) HR.out k hlt (fun p hp => HB.out.cell hp)
        have G1 := hide (HG.out x (List.mem_of_getElem? hx))
        have HXk := hide hx
        obtain ⟨o, ⟨A2, n2, c2⟩, bd⟩ := x
        clear hx
        have hc0 : wr.cell? ⟨b, off + k * 2, none⟩ = some (.int .i64 o) := hcell 0 _ rfl
        have hc1 : wr.cell? ⟨b, off + k * 2 + 1, none⟩ = some (.slice A2 n2 c2) := hcell 1 _ rfl
        have hi0 : (0 : Int) ≤ k := by omega
        have hi1 : (k : Int) < n := by omega
        clear hcell
        go_wp2_with fail
        refine (szData_c _ _ _ _ q wr G1.out hq0 hq2).mono ?_
        rintro e w1 ⟨h, hb⟩
        have HB1 := hide (bel_step HB.out hb HB.out.size)
        clear hb
        rcases h with rfl | ⟨r, hr0, hr1, hF, rfl⟩
        · go_wp2_with fail
          go_ret
          exact ⟨.inl rfl, HB1.out⟩
        · have HF := hide hF
          clear hF
          go_wp2_with fail
          go_roundw
          case rel =>
            refine ⟨k + 1, r, by omega, by go_num, rfl, hr0, by omega, hide (fun j x hj hx => ?_), HB1⟩
            by_cases hjk : j < k
            · exact HE.out j x hjk hx
            · obtain rfl : j = k := by omega
              rw [HXk.out] at hx
              injection hx with hx
              subst hx
              exact HF.out
          case measure => simp [intOf]; omega
      · obtain rfl : k = n := by omega
        go_wp2_with fail
        go_ret
        refine ⟨.inr ⟨q, hq0, by have := HN.out; omega, ⟨HN.out.1, fun x hx => ?_⟩, rfl⟩, HB.out⟩
        obtain ⟨j, hj, hjx⟩ := List.getElem_of_mem hx
        exact HE.out j x (by have := HL.out; omega) (by rw [List.getElem?_eq_getElem hj, hjx])
theorem ESig : Elem Tryz.prog 34 77 (.agg #[.int .i64 0, .int .i64 0]) 2 16 := Elem.mk_ Tryz.underlying34 (by kernel_rfl) rfl (by omega) (by omega)
theorem toSig_c (p : Int) (r : Int) (w : World) :
    Calls Tryz.prog 81 #[.agg #[.int .i64 p, .int .i64 r]] w fun e w' => e = .returned (.agg #[.int .i64 p, .int .i64 r]) ∧ Below w.heap.size w w' := by
  go_enter Tryz.func81, Tryz.ntmps81
  go_wp2_with fail
  refine bodyPost_ret (v := .agg #[.int .i64 p, .int .i64 r]) (by simp [results, Tryz.results81, go_sem]) rfl ⟨rfl, ?_⟩
  repeat (first | exact Below.refl _ _ | refine bel_drewN ?_ _ | refine Below.setCell ?_ (by simp <;> omega) _ | refine Below.alloc ?_ (by simp <;> omega) _)
set_option maxRecDepth 100000 in
theorem toSigS_c (A : Option Addr) (n c : Nat) (l : List Sig2) (w : World) (hr : Rd w w.heap.size 2 A n (fl sigC l)) (hn : n ≤ 1048576) :
    Calls Tryz.prog 32 #[.slice A n c] w (Fresh 77 2 n (fl sigC l) w) := by
  have hn' : (n : Int) ≤ 1048576 := by omega
  have HR := hide hr
  have HL := hide (rd_len sigL (by omega) hr)
  have HN := hide (show 16 * n ≤ 281474976710656 by omega)
  clear hr hn
  go_enter Tryz.func32, Tryz.ntmps32
  go_wp2_with (at_make; refine mk_full rfl _ _ rfl ESig n rfl rfl HN.out ?_; intro w1 hown hg)
  have HB := hide ((Below.refl w.heap.size w).grown hg (Nat.le_refl _) (by intro k hk; cases hk))
  rw [fl_made (f := sigC) (x := (0, 0)) sigL (by omega) rfl] at hown
  have HO := hide hown
  clear hown hg
  go_loopw [4] (fun i wr => ∃ k : Nat, k ≤ n ∧ i = .int .i64 k ∧ Hid (Ow wr w.heap.size 77 2 (some ⟨w.heap.size, 0, none⟩) n n (fl sigC (l.take k ++ List.replicate (n - k) (0, 0)))) ∧ Hid (Below w.heap.size w wr)) (fun i _ => n - (intOf i).toNat)
  case atStart => exact ⟨0, Nat.zero_le _, rfl, hide (by simpa using HO.out), HB⟩
  case round =>
    obtain ⟨k, hk, rfl, H3, H2⟩ := hrel
    by_cases hlt : k < n
    · obtain ⟨b, off, x, rfl, hx, hbg, hcell⟩ := rd_get (wr := wr) sigL (by omega) HR.out k hlt (fun p hp => H2.out.cell hp)
      have HX := hide hx
      obtain ⟨p, r⟩ := x
      have hc0 : wr.cell? ⟨b, off + k * 2, none⟩ = some (.int .i64 p) := hcell 0 _ rfl
      have hc1 : wr.cell? ⟨b, off + k * 2 + 1, none⟩ = some (.int .i64 r) := hcell 1 _ rfl
      have hi0 : (0 : Int) ≤ k := by omega
      have hi1 : (k : Int) < n := by omega
      clear hcell hx
      go_wp2_with
       (go_at_call 81
        refine (toSig_c _ _ _).mono ?_
        rintro e w2 ⟨rfl, hbt⟩
        have H4 := hide (H3.out.below hbt (Nat.le_refl _))
        have H5 := hide (bel_step H2.out hbt H2.out.size)
        have hf0 : ∀ j, w2.frozen? ⟨w.heap.size, j, none⟩ = false := fun j => World.ownsRow.frozenAt H4.out j
        obtain ⟨u0, hu0⟩ := own_cell H4.out (k * 2) (by omega)
        obtain ⟨u1, hu1⟩ := own_cell H4.out (k * 2 + 1) (by omega)
        clear hbt)
      go_roundw
      case rel =>
        refine ⟨k + 1, by omega, by go_num, hide ?_, hide ?_⟩
        · have e0 := (World.ownsRow.stored (World.ownsRow.stored H4.out (k * 2) (.int .i64 p)).1 (k * 2 + 1) (.int .i64 r)).1
          rw [rep_open (l.take k) (0, 0) n k hlt, fl_set2 sigL (l.take k) (List.replicate (n - k - 1) (0, 0)) (p, r) (0, 0) _ _ rfl (k * 2) (by have := HL.out; simp; omega), ← rep_step l (0, 0) n k _ HX.out hlt] at e0
          exact e0
        · exact (H5.out.setCell (p := ⟨w.heap.size, _, none⟩) (Nat.le_refl _) _).setCell (p := ⟨w.heap.size, _, none⟩) (Nat.le_refl _) _
      case measure => simp [intOf]; omega
    · obtain rfl : k = n := by omega
      have HF := hide (show Ow wr w.heap.size 77 2 (some ⟨w.heap.size, 0, none⟩) k k (fl sigC l) by
        have h := H3.out
        rw [Nat.sub_self, List.take_of_length_le (by have := HL.out; omega)] at h
        simpa using h)
      go_wp2_with fail
      go_ret
      exact ⟨_, _, rfl, HF.out, H2.out⟩
theorem EImport : Elem Tryz.prog 35 79 (.agg #[.string ⟨#[]⟩, .string ⟨#[]⟩, .int .i64 0]) 3 40 := Elem.mk_ Tryz.underlying35 (by kernel_rfl) rfl (by omega) (by omega)
theorem toImport_c (m : ByteArray) (x : ByteArray) (i : Int) (w : World) :
    Calls Tryz.prog 82 #[.agg #[.string m, .string x, .int .i64 i]] w fun e w' => e = .returned (.agg #[.string m, .string x, .int .i64 i]) ∧ Below w.heap.size w w' := by
  go_enter Tryz.func82, Tryz.ntmps82
  go_wp2_with fail
  refine bodyPost_ret (v := .agg #[.string m, .string x, .int .i64 i]) (by simp [results, Tryz.results82, go_sem]) rfl ⟨rfl, ?_⟩
  repeat (first | exact Below.refl _ _ | refine bel_drewN ?_ _ | refine Below.setCell ?_ (by simp <;> omega) _ | refine Below.alloc ?_ (by simp <;> omega) _)
set_option maxRecDepth 100000 in
theorem toImportS_c (A : Option Addr) (n c : Nat) (l : List Imp3) (w : World) (hr : Rd w w.heap.size 3 A n (fl impC l)) (hn : n ≤ 1048576) :
    Calls Tryz.prog 33 #[.slice A n c] w (Fresh 79 3 n (fl impC l) w) := by
  have hn' : (n : Int) ≤ 1048576 := by omega
  have HR := hide hr
  have HL := hide (rd_len impL (by omega) hr)
  have HN := hide (show 40 * n ≤ 281474976710656 by omega)
  clear hr hn
  go_enter Tryz.func33, Tryz.ntmps33
  go_wp2_with (at_make; refine mk_full rfl _ _ rfl EImport n rfl rfl HN.out ?_; intro w1 hown hg)
  have HB := hide ((Below.refl w.heap.size w).grown hg (Nat.le_refl _) (by intro k hk; cases hk))
  rw [fl_made (f := impC) (x := (⟨#[]⟩, ⟨#[]⟩, 0)) impL (by omega) rfl] at hown
  have HO := hide hown
  clear hown hg
  go_loopw [4] (fun i wr => ∃ k : Nat, k ≤ n ∧ i = .int .i64 k ∧ Hid (Ow wr w.heap.size 79 3 (some ⟨w.heap.size, 0, none⟩) n n (fl impC (l.take k ++ List.replicate (n - k) (⟨#[]⟩, ⟨#[]⟩, 0)))) ∧ Hid (Below w.heap.size w wr)) (fun i _ => n - (intOf i).toNat)
  case atStart => exact ⟨0, Nat.zero_le _, rfl, hide (by simpa using HO.out), HB⟩
  case round =>
    obtain ⟨k, hk, rfl, H3, H2⟩ := hrel
    by_cases hlt : k < n
    · obtain ⟨b, off, x, rfl, hx, hbg, hcell⟩ := rd_get (wr := wr) impL (by omega) HR.out k hlt (fun p hp => H2.out.cell hp)
      have HX := hide hx
      obtain ⟨m, x, i⟩ := x
      have hc0 : wr.cell? ⟨b, off + k * 3, none⟩ = some (.string m) := hcell 0 _ rfl
      have hc1 : wr.cell? ⟨b, off + k * 3 + 1, none⟩ = some (.string x) := hcell 1 _ rfl
      have hc2 : wr.cell? ⟨b, off + k * 3 + 2, none⟩ = some (.int .i64 i) := hcell 2 _ rfl
      have hi0 : (0 : Int) ≤ k := by omega
      have hi1 : (k : Int) < n := by omega
      clear hcell hx
      go_wp2_with
       (go_at_call 82
        refine (toImport_c _ _ _ _).mono ?_
        rintro e w2 ⟨rfl, hbt⟩
        have H4 := hide (H3.out.below hbt (Nat.le_refl _))
        have H5 := hide (bel_step H2.out hbt H2.out.size)
        have hf0 : ∀ j, w2.frozen? ⟨w.heap.size, j, none⟩ = false := fun j => World.ownsRow.frozenAt H4.out j
        obtain ⟨u0, hu0⟩ := own_cell H4.out (k * 3) (by omega)
        obtain ⟨u1, hu1⟩ := own_cell H4.out (k * 3 + 1) (by omega)
        obtain ⟨u2, hu2⟩ := own_cell H4.out (k * 3 + 2) (by omega)
        clear hbt)
      go_roundw
      case rel =>
        refine ⟨k + 1, by omega, by go_num, hide ?_, hide ?_⟩
        · have e0 := (World.ownsRow.stored (World.ownsRow.stored (World.ownsRow.stored H4.out (k * 3) (.string m)).1 (k * 3 + 1) (.string x)).1 (k * 3 + 2) (.int .i64 i)).1
          rw [rep_open (l.take k) (⟨#[]⟩, ⟨#[]⟩, 0) n k hlt, fl_set3 impL (l.take k) (List.replicate (n - k - 1) (⟨#[]⟩, ⟨#[]⟩, 0)) (m, x, i) (⟨#[]⟩, ⟨#[]⟩, 0) _ _ _ rfl (k * 3) (by have := HL.out; simp; omega), ← rep_step l (⟨#[]⟩, ⟨#[]⟩, 0) n k _ HX.out hlt] at e0
          exact e0
        · exact ((H5.out.setCell (p := ⟨w.heap.size, _, none⟩) (Nat.le_refl _) _).setCell (p := ⟨w.heap.size, _, none⟩) (Nat.le_refl _) _).setCell (p := ⟨w.heap.size, _, none⟩) (Nat.le_refl _) _
      case measure => simp [intOf]; omega
    · obtain rfl : k = n := by omega
      have HF := hide (show Ow wr w.heap.size 79 3 (some ⟨w.heap.size, 0, none⟩) k k (fl impC l) by
        have h := H3.out
        rw [Nat.sub_self, List.take_of_length_le (by have := HL.out; omega)] at h
        simpa using h)
      go_wp2_with fail
      go_ret
      exact ⟨_, _, rfl, HF.out, H2.out⟩
theorem EGlobal : Elem Tryz.prog 37 87 (.agg #[.bool false, .int .i64 0]) 2 16 := Elem.mk_ Tryz.underlying37 (by kernel_rfl) rfl (by omega) (by omega)
theorem toGlobal_c (m : Bool) (i : Int) (w : World) :
    Calls Tryz.prog 84 #[.agg #[.bool m, .int .i64 i]] w fun e w' => e = .returned (.agg #[.bool m, .int .i64 i]) ∧ Below w.heap.size w w' := by
  go_enter Tryz.func84, Tryz.ntmps84
  go_wp2_with fail
  refine bodyPost_ret (v := .agg #[.bool m, .int .i64 i]) (by simp [results, Tryz.results84, go_sem]) rfl ⟨rfl, ?_⟩
  repeat (first | exact Below.refl _ _ | refine bel_drewN ?_ _ | refine Below.setCell ?_ (by simp <;> omega) _ | refine Below.alloc ?_ (by simp <;> omega) _)
set_option maxRecDepth 100000 in
theorem toGlobalS_c (A : Option Addr) (n c : Nat) (l : List Glo2) (w : World) (hr : Rd w w.heap.size 2 A n (fl gloC l)) (hn : n ≤ 1048576) :
    Calls Tryz.prog 35 #[.slice A n c] w (Fresh 87 2 n (fl gloC l) w) := by
  have hn' : (n : Int) ≤ 1048576 := by omega
  have HR := hide hr
  have HL := hide (rd_len gloL (by omega) hr)
  have HN := hide (show 16 * n ≤ 281474976710656 by omega)
  clear hr hn
  go_enter Tryz.func35, Tryz.ntmps35
  go_wp2_with (at_make; refine mk_full rfl _ _ rfl EGlobal n rfl rfl HN.out ?_; intro w1 hown hg)
  have HB := hide ((Below.refl w.heap.size w).grown hg (Nat.le_refl _) (by intro k hk; cases hk))
  rw [fl_made (f := gloC) (x := (false, 0)) gloL (by omega) rfl] at hown
  have HO := hide hown
  clear hown hg
  go_loopw [4] (fun i wr => ∃ k : Nat, k ≤ n ∧ i = .int .i64 k ∧ Hid (Ow wr w.heap.size 87 2 (some ⟨w.heap.size, 0, none⟩) n n (fl gloC (l.take k ++ List.replicate (n - k) (false, 0)))) ∧ Hid (Below w.heap.size w wr)) (fun i _ => n - (intOf i).toNat)
  case atStart => exact ⟨0, Nat.zero_le _, rfl, hide (by simpa using HO.out), HB⟩
  case round =>
    obtain ⟨k, hk, rfl, H3, H2⟩ := hrel
    by_cases hlt : k < n
    · obtain ⟨b, off, x, rfl, hx, hbg, hcell⟩ := rd_get (wr := wr) gloL (by omega) HR.out k hlt (fun p hp => H2.out.cell hp)
      have HX := hide hx
      obtain ⟨m, i⟩ := x
      have hc0 : wr.cell? ⟨b, off + k * 2, none⟩ = some (.bool m) := hcell 0 _ rfl
      have hc1 : wr.cell? ⟨b, off + k * 2 + 1, none⟩ = some (.int .i64 i) := hcell 1 _ rfl
      have hi0 : (0 : Int) ≤ k := by omega
      have hi1 : (k : Int) < n := by omega
      clear hcell hx
      go_wp2_with
       (go_at_call 84
        refine (toGlobal_c _ _ _).mono ?_
        rintro e w2 ⟨rfl, hbt⟩
        have H4 := hide (H3.out.below hbt (Nat.le_refl _))
        have H5 := hide (bel_step H2.out hbt H2.out.size)
        have hf0 : ∀ j, w2.frozen? ⟨w.heap.size, j, none⟩ = false := fun j => World.ownsRow.frozenAt H4.out j
        obtain ⟨u0, hu0⟩ := own_cell H4.out (k * 2) (by omega)
        obtain ⟨u1, hu1⟩ := own_cell H4.out (k * 2 + 1) (by omega)
        clear hbt)
      go_roundw
      case rel =>
        refine ⟨k + 1, by omega, by go_num, hide ?_, hide ?_⟩
        · have e0 := (World.ownsRow.stored (World.ownsRow.stored H4.out (k * 2) (.bool m)).1 (k * 2 + 1) (.int .i64 i)).1
          rw [rep_open (l.take k) (false, 0) n k hlt, fl_set2 gloL (l.take k) (List.replicate (n - k - 1) (false, 0)) (m, i) (false, 0) _ _ rfl (k * 2) (by have := HL.out; simp; omega), ← rep_step l (false, 0) n k _ HX.out hlt] at e0
          exact e0
        · exact (H5.out.setCell (p := ⟨w.heap.size, _, none⟩) (Nat.le_refl _) _).setCell (p := ⟨w.heap.size, _, none⟩) (Nat.le_refl _) _
      case measure => simp [intOf]; omega
    · obtain rfl : k = n := by omega
      have HF := hide (show Ow wr w.heap.size 87 2 (some ⟨w.heap.size, 0, none⟩) k k (fl gloC l) by
        have h := H3.out
        rw [Nat.sub_self, List.take_of_length_le (by have := HL.out; omega)] at h
        simpa using h)
      go_wp2_with fail
      go_ret
      exact ⟨_, _, rfl, HF.out, H2.out⟩
theorem EExport : Elem Tryz.prog 38 89 (.agg #[.string ⟨#[]⟩, .int .i64 0, .int .i64 0]) 3 32 := Elem.mk_ Tryz.underlying38 (by kernel_rfl) rfl (by omega) (by omega)
theorem toExport_c (x : ByteArray) (q : Int) (i : Int) (w : World) :
    Calls Tryz.prog 85 #[.agg #[.string x, .int .i64 q, .int .i64 i]] w fun e w' => e = .returned (.agg #[.string x, .int .i64 q, .int .i64 i]) ∧ Below w.heap.size w w' := by
  go_enter Tryz.func85, Tryz.ntmps85
  go_wp2_with fail
  refine bodyPost_ret (v := .agg #[.string x, .int .i64 q, .int .i64 i]) (by simp [results, Tryz.results85, go_sem]) rfl ⟨rfl, ?_⟩
  repeat (first | exact Below.refl _ _ | refine bel_drewN ?_ _ | refine Below.setCell ?_ (by simp <;> omega) _ | refine Below.alloc ?_ (by simp <;> omega) _)
set_option maxRecDepth 100000 in
theorem toExportS_c (A : Option Addr) (n c : Nat) (l : List Exp3) (w : World) (hr : Rd w w.heap.size 3 A n (fl expC l)) (hn : n ≤ 1048576) :
    Calls Tryz.prog 36 #[.slice A n c] w (Fresh 89 3 n (fl expC l) w) := by
  have hn' : (n : Int) ≤ 1048576 := by omega
  have HR := hide hr
  have HL := hide (rd_len expL (by omega) hr)
  have HN := hide (show 32 * n ≤ 281474976710656 by omega)
  clear hr hn
  go_enter Tryz.func36, Tryz.ntmps36
  go_wp2_with (at_make; refine mk_full rfl _ _ rfl EExport n rfl rfl HN.out ?_; intro w1 hown hg)
  have HB := hide ((Below.refl w.heap.size w).grown hg (Nat.le_refl _) (by intro k hk; cases hk))
  rw [fl_made (f := expC) (x := (⟨#[]⟩, 0, 0)) expL (by omega) rfl] at hown
  have HO := hide hown
  clear hown hg
  go_loopw [4] (fun i wr => ∃ k : Nat, k ≤ n ∧ i = .int .i64 k ∧ Hid (Ow wr w.heap.size 89 3 (some ⟨w.heap.size, 0, none⟩) n n (fl expC (l.take k ++ List.replicate (n - k) (⟨#[]⟩, 0, 0)))) ∧ Hid (Below w.heap.size w wr)) (fun i _ => n - (intOf i).toNat)
  case atStart => exact ⟨0, Nat.zero_le _, rfl, hide (by simpa using HO.out), HB⟩
  case round =>
    obtain ⟨k, hk, rfl, H3, H2⟩ := hrel
    by_cases hlt : k < n
    · obtain ⟨b, off, x, rfl, hx, hbg, hcell⟩ := rd_get (wr := wr) expL (by omega) HR.out k hlt (fun p hp => H2.out.cell hp)
      have HX := hide hx
      obtain ⟨x, q, i⟩ := x
      have hc0 : wr.cell? ⟨b, off + k * 3, none⟩ = some (.string x) := hcell 0 _ rfl
      have hc1 : wr.cell? ⟨b, off + k * 3 + 1, none⟩ = some (.int .i64 q) := hcell 1 _ rfl
      have hc2 : wr.cell? ⟨b, off + k * 3 + 2, none⟩ = some (.int .i64 i) := hcell 2 _ rfl
      have hi0 : (0 : Int) ≤ k := by omega
      have hi1 : (k : Int) < n := by omega
      clear hcell hx
      go_wp2_with
       (go_at_call 85
        refine (toExport_c _ _ _ _).mono ?_
        rintro e w2 ⟨rfl, hbt⟩
        have H4 := hide (H3.out.below hbt (Nat.le_refl _))
        have H5 := hide (bel_step H2.out hbt H2.out.size)
        have hf0 : ∀ j, w2.frozen? ⟨w.heap.size, j, none⟩ = false := fun j => World.ownsRow.frozenAt H4.out j
        obtain ⟨u0, hu0⟩ := own_cell H4.out (k * 3) (by omega)
        obtain ⟨u1, hu1⟩ := own_cell H4.out (k * 3 + 1) (by omega)
        obtain ⟨u2, hu2⟩ := own_cell H4.out (k * 3 + 2) (by omega)
        clear hbt)
      go_roundw
      case rel =>
        refine ⟨k + 1, by omega, by go_num, hide ?_, hide ?_⟩
        · have e0 := (World.ownsRow.stored (World.ownsRow.stored (World.ownsRow.stored H4.out (k * 3) (.string x)).1 (k * 3 + 1) (.int .i64 q)).1 (k * 3 + 2) (.int .i64 i)).1
          rw [rep_open (l.take k) (⟨#[]⟩, 0, 0) n k hlt, fl_set3 expL (l.take k) (List.replicate (n - k - 1) (⟨#[]⟩, 0, 0)) (x, q, i) (⟨#[]⟩, 0, 0) _ _ _ rfl (k * 3) (by have := HL.out; simp; omega), ← rep_step l (⟨#[]⟩, 0, 0) n k _ HX.out hlt] at e0
          exact e0
        · exact ((H5.out.setCell (p := ⟨w.heap.size, _, none⟩) (Nat.le_refl _) _).setCell (p := ⟨w.heap.size, _, none⟩) (Nat.le_refl _) _).setCell (p := ⟨w.heap.size, _, none⟩) (Nat.le_refl _) _
      case measure => simp [intOf]; omega
    · obtain rfl : k = n := by omega
      have HF := hide (show Ow wr w.heap.size 89 3 (some ⟨w.heap.size, 0, none⟩) k k (fl expC l) by
        have h := H3.out
        rw [Nat.sub_self, List.take_of_length_le (by have := HL.out; omega)] at h
        simpa using h)
      go_wp2_with fail
      go_ret
      exact ⟨_, _, rfl, HF.out, H2.out⟩
set_option maxRecDepth 100000 in
theorem eqSig_c (p : Int) (r : Int) (w : World) :
    Calls Tryz.prog 94 #[.agg #[.int .i64 p, .int .i64 r], .agg #[.int .i64 p, .int .i64 r]] w fun e w' => e = .returned (.bool true) ∧ Below w.heap.size w w' := by
  have hp : (p == p) = true := by simp
  have hr : (r == r) = true := by simp
  go_enter Tryz.func94, Tryz.ntmps94
  go_wp2_with fail
  go_ret
  refine ⟨rfl, ?_⟩
  repeat (first | exact Below.refl _ _ | refine bel_drewN ?_ _ | refine Below.setCell ?_ (by simp <;> omega) _ | refine Below.alloc ?_ (by simp <;> omega) _)
set_option maxRecDepth 100000 in
theorem eqSigS_c (A B : Option Addr) (n c d : Nat) (l : List Sig2) (w : World) (ha : Rd w w.heap.size 2 A n (fl sigC l)) (hb : Rd w w.heap.size 2 B n (fl sigC l)) (hn : n ≤ 1048576) :
    Calls Tryz.prog 57 #[.slice A n c, .slice B n d] w fun e w' => e = .returned (.bool true) ∧ Below w.heap.size w w' := by
  have hn' : (n : Int) ≤ 1048576 := by omega
  have HA := hide ha
  have HB := hide hb
  clear ha hb hn
  go_enter Tryz.func57, Tryz.ntmps57
  go_wp2_with fail
  go_loopw [5] (fun i wr => ∃ k : Nat, k ≤ n ∧ i = .int .i64 k ∧ Hid (Below w.heap.size w wr)) (fun i _ => n - (intOf i).toNat)
  case atStart => exact ⟨0, Nat.zero_le _, rfl, hide (Below.refl _ _)⟩
  case round =>
    obtain ⟨k, hk, rfl, H2⟩ := hrel
    by_cases hlt : k < n
    · obtain ⟨b, off, x, rfl, hx, hbg, hcell⟩ := rd_get (wr := wr) sigL (by omega) HA.out k hlt (fun p hp => H2.out.cell hp)
      obtain ⟨b', off', x', rfl, hx', hbg', hcell'⟩ := rd_get (wr := wr) sigL (by omega) HB.out k hlt (fun p hp => H2.out.cell hp)
      rw [hx] at hx'
      injection hx' with hx'
      subst hx'
      obtain ⟨p, r⟩ := x
      have hc0 : wr.cell? ⟨b, off + k * 2, none⟩ = some (.int .i64 p) := hcell 0 _ rfl
      have hd0 : wr.cell? ⟨b', off' + k * 2, none⟩ = some (.int .i64 p) := hcell' 0 _ rfl
      have hc1 : wr.cell? ⟨b, off + k * 2 + 1, none⟩ = some (.int .i64 r) := hcell 1 _ rfl
      have hd1 : wr.cell? ⟨b', off' + k * 2 + 1, none⟩ = some (.int .i64 r) := hcell' 1 _ rfl
      have hi0 : (0 : Int) ≤ k := by omega
      have hi1 : (k : Int) < n := by omega
      clear hcell hcell' hx
      go_wp2_with fail
      go_still_tail 8, (by kernel_rfl)
      go_wp2_with
       (go_at_call 94
        refine (eqSig_c _ _ _).mono ?_
        rintro e w2 ⟨rfl, hbt⟩)
      go_roundw
      case rel => exact ⟨k + 1, by omega, by go_num, hide (bel_step H2.out ⟨hbt.os, hbt.tape, hbt.output, hbt.size, hbt.block⟩ H2.out.size)⟩
      case measure => simp [intOf]; omega
    · obtain rfl : k = n := by omega
      go_wp2_with fail
      go_ret
      exact ⟨rfl, H2.out⟩
set_option maxRecDepth 100000 in
theorem eqImport_c (m : ByteArray) (x : ByteArray) (i : Int) (w : World) :
    Calls Tryz.prog 95 #[.agg #[.string m, .string x, .int .i64 i], .agg #[.string m, .string x, .int .i64 i]] w fun e w' => e = .returned (.bool true) ∧ Below w.heap.size w w' := by
  have hm : (m.toList == m.toList) = true := by simp
  have hx : (x.toList == x.toList) = true := by simp
  have hi : (i == i) = true := by simp
  go_enter Tryz.func95, Tryz.ntmps95
  go_wp2_with fail
  go_ret
  refine ⟨rfl, ?_⟩
  repeat (first | exact Below.refl _ _ | refine bel_drewN ?_ _ | refine Below.setCell ?_ (by simp <;> omega) _ | refine Below.alloc ?_ (by simp <;> omega) _)
set_option maxRecDepth 100000 in
theorem eqImportS_c (A B : Option Addr) (n c d : Nat) (l : List Imp3) (w : World) (ha : Rd w w.heap.size 3 A n (fl impC l)) (hb : Rd w w.heap.size 3 B n (fl impC l)) (hn : n ≤ 1048576) :
    Calls Tryz.prog 58 #[.slice A n c, .slice B n d] w fun e w' => e = .returned (.bool true) ∧ Below w.heap.size w w' := by
  have hn' : (n : Int) ≤ 1048576 := by omega
  have HA := hide ha
  have HB := hide hb
  clear ha hb hn
  go_enter Tryz.func58, Tryz.ntmps58
  go_wp2_with fail
  go_loopw [5] (fun i wr => ∃ k : Nat, k ≤ n ∧ i = .int .i64 k ∧ Hid (Below w.heap.size w wr)) (fun i _ => n - (intOf i).toNat)
  case atStart => exact ⟨0, Nat.zero_le _, rfl, hide (Below.refl _ _)⟩
  case round =>
    obtain ⟨k, hk, rfl, H2⟩ := hrel
    by_cases hlt : k < n
    · obtain ⟨b, off, x, rfl, hx, hbg, hcell⟩ := rd_get (wr := wr) impL (by omega) HA.out k hlt (fun p hp => H2.out.cell hp)
      obtain ⟨b', off', x', rfl, hx', hbg', hcell'⟩ := rd_get (wr := wr) impL (by omega) HB.out k hlt (fun p hp => H2.out.cell hp)
      rw [hx] at hx'
      injection hx' with hx'
      subst hx'
      obtain ⟨m, x, i⟩ := x
      have hc0 : wr.cell? ⟨b, off + k * 3, none⟩ = some (.string m) := hcell 0 _ rfl
      have hd0 : wr.cell? ⟨b', off' + k * 3, none⟩ = some (.string m) := hcell' 0 _ rfl
      have hc1 : wr.cell? ⟨b, off + k * 3 + 1, none⟩ = some (.string x) := hcell 1 _ rfl
      have hd1 : wr.cell? ⟨b', off' + k * 3 + 1, none⟩ = some (.string x) := hcell' 1 _ rfl
      have hc2 : wr.cell? ⟨b, off + k * 3 + 2, none⟩ = some (.int .i64 i) := hcell 2 _ rfl
      have hd2 : wr.cell? ⟨b', off' + k * 3 + 2, none⟩ = some (.int .i64 i) := hcell' 2 _ rfl
      have hi0 : (0 : Int) ≤ k := by omega
      have hi1 : (k : Int) < n := by omega
      clear hcell hcell' hx
      go_wp2_with fail
      go_still_tail 8, (by kernel_rfl)
      go_wp2_with
       (go_at_call 95
        refine (eqImport_c _ _ _ _).mono ?_
        rintro e w2 ⟨rfl, hbt⟩)
      go_roundw
      case rel => exact ⟨k + 1, by omega, by go_num, hide (bel_step H2.out ⟨hbt.os, hbt.tape, hbt.output, hbt.size, hbt.block⟩ H2.out.size)⟩
      case measure => simp [intOf]; omega
    · obtain rfl : k = n := by omega
      go_wp2_with fail
      go_ret
      exact ⟨rfl, H2.out⟩
set_option maxRecDepth 100000 in
theorem eqGlobal_c (m : Bool) (i : Int) (w : World) :
    Calls Tryz.prog 97 #[.agg #[.bool m, .int .i64 i], .agg #[.bool m, .int .i64 i]] w fun e w' => e = .returned (.bool true) ∧ Below w.heap.size w w' := by
  have hm : (m == m) = true := by simp
  have hi : (i == i) = true := by simp
  go_enter Tryz.func97, Tryz.ntmps97
  go_wp2_with fail
  go_ret
  refine ⟨rfl, ?_⟩
  repeat (first | exact Below.refl _ _ | refine bel_drewN ?_ _ | refine Below.setCell ?_ (by simp <;> omega) _ | refine Below.alloc ?_ (by simp <;> omega) _)
set_option maxRecDepth 100000 in
theorem eqGlobalS_c (A B : Option Addr) (n c d : Nat) (l : List Glo2) (w : World) (ha : Rd w w.heap.size 2 A n (fl gloC l)) (hb : Rd w w.heap.size 2 B n (fl gloC l)) (hn : n ≤ 1048576) :
    Calls Tryz.prog 60 #[.slice A n c, .slice B n d] w fun e w' => e = .returned (.bool true) ∧ Below w.heap.size w w' := by
  have hn' : (n : Int) ≤ 1048576 := by omega
  have HA := hide ha
  have HB := hide hb
  clear ha hb hn
  go_enter Tryz.func60, Tryz.ntmps60
  go_wp2_with fail
  go_loopw [5] (fun i wr => ∃ k : Nat, k ≤ n ∧ i = .int .i64 k ∧ Hid (Below w.heap.size w wr)) (fun i _ => n - (intOf i).toNat)
  case atStart => exact ⟨0, Nat.zero_le _, rfl, hide (Below.refl _ _)⟩
  case round =>
    obtain ⟨k, hk, rfl, H2⟩ := hrel
    by_cases hlt : k < n
    · obtain ⟨b, off, x, rfl, hx, hbg, hcell⟩ := rd_get (wr := wr) gloL (by omega) HA.out k hlt (fun p hp => H2.out.cell hp)
      obtain ⟨b', off', x', rfl, hx', hbg', hcell'⟩ := rd_get (wr := wr) gloL (by omega) HB.out k hlt (fun p hp => H2.out.cell hp)
      rw [hx] at hx'
      injection hx' with hx'
      subst hx'
      obtain ⟨m, i⟩ := x
      have hc0 : wr.cell? ⟨b, off + k * 2, none⟩ = some (.bool m) := hcell 0 _ rfl
      have hd0 : wr.cell? ⟨b', off' + k * 2, none⟩ = some (.bool m) := hcell' 0 _ rfl
      have hc1 : wr.cell? ⟨b, off + k * 2 + 1, none⟩ = some (.int .i64 i) := hcell 1 _ rfl
      have hd1 : wr.cell? ⟨b', off' + k * 2 + 1, none⟩ = some (.int .i64 i) := hcell' 1 _ rfl
      have hi0 : (0 : Int) ≤ k := by omega
      have hi1 : (k : Int) < n := by omega
      clear hcell hcell' hx
      go_wp2_with fail
      go_still_tail 8, (by kernel_rfl)
      go_wp2_with
       (go_at_call 97
        refine (eqGlobal_c _ _ _).mono ?_
        rintro e w2 ⟨rfl, hbt⟩)
      go_roundw
      case rel => exact ⟨k + 1, by omega, by go_num, hide (bel_step H2.out ⟨hbt.os, hbt.tape, hbt.output, hbt.size, hbt.block⟩ H2.out.size)⟩
      case measure => simp [intOf]; omega
    · obtain rfl : k = n := by omega
      go_wp2_with fail
      go_ret
      exact ⟨rfl, H2.out⟩
set_option maxRecDepth 100000 in
theorem eqExport_c (x : ByteArray) (q : Int) (i : Int) (w : World) :
    Calls Tryz.prog 98 #[.agg #[.string x, .int .i64 q, .int .i64 i], .agg #[.string x, .int .i64 q, .int .i64 i]] w fun e w' => e = .returned (.bool true) ∧ Below w.heap.size w w' := by
  have hx : (x.toList == x.toList) = true := by simp
  have hq : (q == q) = true := by simp
  have hi : (i == i) = true := by simp
  go_enter Tryz.func98, Tryz.ntmps98
  go_wp2_with fail
  go_ret
  refine ⟨rfl, ?_⟩
  repeat (first | exact Below.refl _ _ | refine bel_drewN ?_ _ | refine Below.setCell ?_ (by simp <;> omega) _ | refine Below.alloc ?_ (by simp <;> omega) _)
set_option maxRecDepth 100000 in
theorem eqExportS_c (A B : Option Addr) (n c d : Nat) (l : List Exp3) (w : World) (ha : Rd w w.heap.size 3 A n (fl expC l)) (hb : Rd w w.heap.size 3 B n (fl expC l)) (hn : n ≤ 1048576) :
    Calls Tryz.prog 61 #[.slice A n c, .slice B n d] w fun e w' => e = .returned (.bool true) ∧ Below w.heap.size w w' := by
  have hn' : (n : Int) ≤ 1048576 := by omega
  have HA := hide ha
  have HB := hide hb
  clear ha hb hn
  go_enter Tryz.func61, Tryz.ntmps61
  go_wp2_with fail
  go_loopw [5] (fun i wr => ∃ k : Nat, k ≤ n ∧ i = .int .i64 k ∧ Hid (Below w.heap.size w wr)) (fun i _ => n - (intOf i).toNat)
  case atStart => exact ⟨0, Nat.zero_le _, rfl, hide (Below.refl _ _)⟩
  case round =>
    obtain ⟨k, hk, rfl, H2⟩ := hrel
    by_cases hlt : k < n
    · obtain ⟨b, off, x, rfl, hx, hbg, hcell⟩ := rd_get (wr := wr) expL (by omega) HA.out k hlt (fun p hp => H2.out.cell hp)
      obtain ⟨b', off', x', rfl, hx', hbg', hcell'⟩ := rd_get (wr := wr) expL (by omega) HB.out k hlt (fun p hp => H2.out.cell hp)
      rw [hx] at hx'
      injection hx' with hx'
      subst hx'
      obtain ⟨x, q, i⟩ := x
      have hc0 : wr.cell? ⟨b, off + k * 3, none⟩ = some (.string x) := hcell 0 _ rfl
      have hd0 : wr.cell? ⟨b', off' + k * 3, none⟩ = some (.string x) := hcell' 0 _ rfl
      have hc1 : wr.cell? ⟨b, off + k * 3 + 1, none⟩ = some (.int .i64 q) := hcell 1 _ rfl
      have hd1 : wr.cell? ⟨b', off' + k * 3 + 1, none⟩ = some (.int .i64 q) := hcell' 1 _ rfl
      have hc2 : wr.cell? ⟨b, off + k * 3 + 2, none⟩ = some (.int .i64 i) := hcell 2 _ rfl
      have hd2 : wr.cell? ⟨b', off' + k * 3 + 2, none⟩ = some (.int .i64 i) := hcell' 2 _ rfl
      have hi0 : (0 : Int) ≤ k := by omega
      have hi1 : (k : Int) < n := by omega
      clear hcell hcell' hx
      go_wp2_with fail
      go_still_tail 8, (by kernel_rfl)
      go_wp2_with
       (go_at_call 98
        refine (eqExport_c _ _ _ _).mono ?_
        rintro e w2 ⟨rfl, hbt⟩)
      go_roundw
      case rel => exact ⟨k + 1, by omega, by go_num, hide (bel_step H2.out ⟨hbt.os, hbt.tape, hbt.output, hbt.size, hbt.block⟩ H2.out.size)⟩
      case measure => simp [intOf]; omega
    · obtain rfl : k = n := by omega
      go_wp2_with fail
      go_ret
      exact ⟨rfl, H2.out⟩
end Go.Proofs.YtiinkfejdnfonaaGreatDoor.Mo
