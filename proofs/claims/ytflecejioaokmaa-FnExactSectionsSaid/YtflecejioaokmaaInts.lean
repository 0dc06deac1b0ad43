/- The laws' own helpers on slices of numbers: sizes, copies, comparisons: a contract each; the library's Equal on them. -/
import Derived.Test.YtflecejioaokmaaBytes
namespace Go.Proofs.Ytflecejioaokmaa.Mem
open Go.RowKit Go.Proofs.Ytflecejioaokmaa.Num
set_option linter.unusedVariables false

theorem EI64 : Elem Try.prog 30 3 (.int .i64 0) 1 8 := Elem.mk_ Try.underlying30 (by kernel_rfl) rfl (by omega) (by omega)
theorem made64 (n : Nat) : (madeCells (Value.int .i64 0).cells (n * 1)).toList = List.replicate n (.int .i64 0) := by rw [Nat.mul_one]; exact toList_madeCells_one _ _
theorem rd_in64 {w : World} {B n : Nat} {A : Option Addr} {l : List Int} (h : Rd w B 1 A n (in64 l)) : l.length = n := by
  have := h.1
  simp only [in64, List.length_map] at this
  omega
theorem szIntS_c (A : Option Addr) (n c : Nat) (left : Int) (w : World) (hn : n ≤ 9223372036854775807) (h0 : 0 ≤ left) (h1 : left ≤ 1048576) :
    Calls Try.prog 67 #[.slice A n c, .int .i64 left] w fun e w' => ((left < n ∧ e = .returned (.int .i64 (-1))) ∨ ((n : Int) ≤ left ∧ e = .returned (.int .i64 (left - n)))) ∧ w' = w := by
  have hn' : (n : Int) ≤ 9223372036854775807 := by omega
  clear hn
  by_cases h : left < n
  · have h2 : left - n < 0 := by omega
    go_enter Try.func67, Try.ntmps67
    go_wp2_with fail
    go_ret
    exact ⟨.inl ⟨h, rfl⟩, rfl⟩
  · have h2 : 0 ≤ left - n := by omega
    go_enter Try.func67, Try.ntmps67
    go_wp2_with fail
    go_ret
    refine ⟨?_, rfl⟩
    first | exact .inr rfl | exact .inr ⟨by omega, rfl⟩
theorem toIntS_c (A : Option Addr) (n c : Nat) (bs : List Int) (w : World) (hr : Rd w w.heap.size 1 A n (in64 bs)) (hn : n ≤ 1048576) :
    Calls Try.prog 69 #[.slice A n c] w (Fresh 3 1 n (in64 bs) w) := by
  have hn' : (n : Int) ≤ 1048576 := by omega
  have HR := hide hr
  have hlen : (in64 bs).length = n := by have := hr.1; omega
  have HL := hide hlen
  clear hr hlen hn
  have HN := hide (show 8 * n ≤ 281474976710656 by omega)
  go_enter Try.func69, Try.ntmps69
  go_wp2_with (at_make; refine mk_full rfl _ _ rfl EI64 n rfl rfl HN.out ?_; intro w1 hown hg)
  have HB := hide ((Below.refl w.heap.size w).grown hg (Nat.le_refl _) (by intro k hk; cases hk))
  rw [made64] at hown
  have HO := hide hown
  clear hown hg
  go_loopw [4] (fun i wr => ∃ k : Nat, k ≤ n ∧ i = .int .i64 k ∧ Ow wr w.heap.size 3 1 (some ⟨w.heap.size, 0, none⟩) n n ((in64 bs).take k ++ List.replicate (n - k) (.int .i64 0)) ∧ Below w.heap.size w wr) (fun i _ => n - (intOf i).toNat)
  case atStart => exact ⟨0, Nat.zero_le _, rfl, by simpa using HO.out, HB.out⟩
  case round =>
    obtain ⟨k, hk, rfl, hown, hb⟩ := hrel
    by_cases hlt : k < n
    · obtain ⟨b, off, rfl, hbg, hcell⟩ := HR.out.2 (by omega)
      have hl : k < bs.length := by have := HL.out; simp only [in64, List.length_map] at this; omega
      have hc := (hb.cell (p := ⟨b, off + k, none⟩) hbg).trans (hcell k _ (in64_get hl))
      have hst := World.ownsRow.stored hown k (.int .i64 (bs[k]'hl))
      have hx0 : wr.cell? ⟨w.heap.size, k, none⟩ = _ := World.ownsRow.cellAt hown k (by omega)
      have hf0 : wr.frozen? ⟨w.heap.size, k, none⟩ = false := World.ownsRow.frozenAt hown k
      obtain ⟨u, hu⟩ : ∃ u, wr.cell? ⟨w.heap.size, k, none⟩ = some u := by
        rw [hx0]
        exact ⟨_, List.getElem?_eq_getElem (by have := hown.1; omega)⟩
      clear hx0
      have H1 := hide hst
      have H2 := hide hb
      have H3 := hide hown
      obtain ⟨v, hv⟩ : ∃ v, bs[k]'hl = v := ⟨_, rfl⟩
      have HV := hide hv
      rw [hv] at hc H1
      clear hst hb hown hcell hv
      go_wp2_with fail
      go_roundw
      case rel =>
        refine ⟨k + 1, by omega, by go_num, ?_, H2.out.setCell (p := ⟨w.heap.size, k, none⟩) (Nat.le_refl _) _⟩
        have h4 := H1.out.1
        have h5 := set_step (in64 bs) (.int .i64 0) n k HL.out hlt
        have h6 : (in64 bs)[k]'(by have := HL.out; omega) = .int .i64 v := by simp only [in64, List.getElem_map]; rw [HV.out]
        rw [h6] at h5
        rw [h5] at h4
        exact h4
      case measure => simp [intOf]; omega
    · obtain rfl : k = n := by omega
      go_wp2_with fail
      go_ret
      refine ⟨_, _, rfl, ?_, hb⟩
      have := HL.out
      rw [Nat.sub_self, List.take_of_length_le (by omega)] at hown
      simpa using hown
theorem eqIntS_c (A B : Option Addr) (n c d : Nat) (bs : List Int) (w : World) (ha : Rd w w.heap.size 1 A n (in64 bs)) (hb : Rd w w.heap.size 1 B n (in64 bs)) (hn : n ≤ 1048576) :
    Calls Try.prog 21 #[.slice A n c, .slice B n d] w fun e w' => e = .returned (.bool true) ∧ ∃ m, w' = w.drewN m := by
  have hn' : (n : Int) ≤ 1048576 := by omega
  have HA := hide ha
  have HB := hide hb
  clear ha hb hn
  go_enter Try.func21, Try.ntmps21
  go_wp2_with fail
  go_loopw [5] (fun i wr => ∃ k : Nat, k ≤ n ∧ i = .int .i64 k ∧ ∃ m, wr = w.drewN m) (fun i _ => n - (intOf i).toNat)
  case atStart => exact ⟨0, Nat.zero_le _, rfl, 0, rfl⟩
  case round =>
    obtain ⟨k, hk, rfl, m, rfl⟩ := hrel
    by_cases hlt : k < n
    · obtain ⟨b, off, rfl, _, hc⟩ := HA.out.2 (by omega)
      obtain ⟨b', off', rfl, _, hc'⟩ := HB.out.2 (by omega)
      have hl : k < bs.length := by have := HA.out.1; simp only [in64, List.length_map] at this; omega
      have h1 := hc k _ (in64_get hl)
      have h2 := hc' k _ (in64_get hl)
      have hi0 : (k : Int) < (n : Int) := by omega
      have hi1 : (0 : Int) ≤ (k : Int) := by omega
      obtain ⟨v, hv⟩ : ∃ v, bs[k]'hl = v := ⟨_, rfl⟩
      rw [hv] at h1 h2
      clear hv hc hc'
      go_wp2_with fail
      go_quiet (fail)
      go_wp2_with fail
      go_roundw
      case rel => exact ⟨k + 1, by omega, by go_num, _, rfl⟩
      case measure => simp [intOf]; omega
    · obtain rfl : k = n := by omega
      go_wp2_with fail
      go_ret
      exact ⟨rfl, _, rfl⟩


theorem get_in64 {w wr : World} {B n : Nat} {A : Option Addr} {l : List Int} (h : Rd w B 1 A n (in64 l)) (k : Nat) (hk : k < n) (hc : ∀ p : Addr, p.block < B → wr.cell? p = w.cell? p) :
    ∃ b off, A = some ⟨b, off, none⟩ ∧ ∃ x, l[k]? = some x ∧ wr.cell? ⟨b, off + k, none⟩ = some (.int .i64 x) ∧ b < B := by
  obtain ⟨b, off, rfl, hb, hcell⟩ := h.2 (by omega)
  have hl : k < l.length := by have := rd_in64 h; omega
  exact ⟨b, off, rfl, l[k], List.getElem?_eq_getElem hl, (hc _ hb).trans (hcell _ _ (in64_get hl)), hb⟩
theorem list_eq {xs ys : List Int} {n : Nat} (hx : xs.length = n) (hy : ys.length = n) (h : ∀ j, j < n → xs[j]? = ys[j]?) : xs = ys := by
  apply List.ext_getElem?
  intro j
  by_cases hj : j < n
  · exact h j hj
  · rw [List.getElem?_eq_none (by omega), List.getElem?_eq_none (by omega)]
theorem list_ne {xs ys : List Int} {k : Nat} {x y : Int} (hx : xs[k]? = some x) (hy : ys[k]? = some y) (h : x ≠ y) : xs ≠ ys := by
  intro e
  subst e
  rw [hx] at hy
  injection hy with hy
  exact h hy
theorem equal_c (A B : Option Addr) (n m c d : Nat) (xs ys : List Int) (w : World) (ha : Rd w w.heap.size 1 A n (in64 xs)) (hb : Rd w w.heap.size 1 B m (in64 ys)) (hn : n ≤ 1048576) (hm : m ≤ 1048576) (R : Bool) (hR : R = decide (xs = ys)) :
    Calls Try.prog 70 #[.slice A n c, .slice B m d] w fun e w' => e = .returned (.bool R) ∧ Below w.heap.size w w' := by
  have hn' : (n : Int) ≤ 1048576 := by omega
  have hm' : (m : Int) ≤ 1048576 := by omega
  have HA := hide ha
  have HB := hide hb
  have HX := hide (rd_in64 ha)
  have HY := hide (rd_in64 hb)
  clear ha hb hn hm
  by_cases hnm : n = m
  · subst hnm
    have HR := hide hR
    clear hR
    go_enter Try.func70, Try.ntmps70
    go_wp2_with fail
    go_loopw [13] (fun i wr => ∃ k : Nat, k ≤ n ∧ i = .int .i64 k ∧ Hid (∀ j, j < k → xs[j]? = ys[j]?) ∧ ∃ q, wr = w.drewN q) (fun i _ => n - (intOf i).toNat)
    case atStart => exact ⟨0, Nat.zero_le _, rfl, hide (fun j hj => by omega), 0, rfl⟩
    case round =>
      obtain ⟨k, hk, rfl, HE, q, rfl⟩ := hrel
      by_cases hlt : k < n
      · obtain ⟨b, off, rfl, x, hx, h1, _⟩ := get_in64 (wr := w) HA.out k hlt (fun _ _ => rfl)
        obtain ⟨b', off', rfl, y, hy, h2, _⟩ := get_in64 (wr := w) HB.out k hlt (fun _ _ => rfl)
        have hi0 : (k : Int) < (n : Int) := by omega
        have hi1 : (0 : Int) ≤ (k : Int) := by omega
        have HXk := hide hx
        have HYk := hide hy
        clear hx hy
        by_cases hxy : x = y
        · subst hxy
          go_wp2_with fail
          go_quiet (fail)
          go_wp2_with fail
          go_roundw
          case rel =>
            refine ⟨k + 1, by omega, by go_num, hide (fun j hj => ?_), _, rfl⟩
            by_cases hjk : j < k
            · exact HE.out j hjk
            · obtain rfl : j = k := by omega
              rw [HXk.out, HYk.out]
          case measure => simp [intOf]; omega
        · have hR2 : R = false := by rw [HR.out]; exact decide_eq_false (list_ne HXk.out HYk.out hxy)
          subst hR2
          have hxb : (x == y) = false := by simpa using hxy
          go_wp2_with fail
          go_quiet (fail)
          go_wp2_with fail
          go_ret
          exact ⟨rfl, bel_drewN (bel_drewN (Below.refl _ _) _) _⟩
      · obtain rfl : k = n := by omega
        have hR2 : R = true := by rw [HR.out]; exact decide_eq_true (list_eq HX.out HY.out HE.out)
        subst hR2
        go_wp2_with fail
        go_ret
        exact ⟨rfl, bel_drewN (Below.refl _ _) _⟩
  · have hR2 : R = false := by
      rw [hR]
      refine decide_eq_false (fun e => hnm ?_)
      have h1 := HX.out
      have h2 := HY.out
      rw [← h1, ← h2, e]
    subst hR2
    have hnm2 : (n : Int) ≠ m := by omega
    clear hR
    go_enter Try.func70, Try.ntmps70
    go_wp2_with fail
    go_ret
    exact ⟨rfl, Below.refl _ _⟩
end Go.Proofs.Ytflecejioaokmaa.Mem
