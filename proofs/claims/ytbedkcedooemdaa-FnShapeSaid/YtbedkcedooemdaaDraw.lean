/- What the generators of inputs draw: some numbers of 64 bits; the cursor alone is written. -/
import Derived.Test.YtbedkcedooemdaaNumC
import Derived.Test.YtbedkcedooemdaaMem
import Derived.WalkSpells
import Derived.Deep.QuietTactic
import Derived.BigQuiet
import Derived.Outline
namespace Go.Proofs.Ytbedkcedooemdaa.Draw
open Go.RowKit Go.Proofs.Ytbedkcedooemdaa.Num Go.Proofs.Ytbedkcedooemdaa.NumC Go.Proofs.Ytbedkcedooemdaa.Mem

/-- block g is a cursor over the bytes of a slice of n -/
def Cur (w : World) (g : Nat) (A : Option Addr) (n c : Nat) (bs : List Int) : Prop :=
  (∃ (i : Nat) (h : Int), w.heap[g]? = some (.cells #[.slice A n c, .int .i64 i, .int .i64 h] 37 (0, 0)) ∧ i ≤ n) ∧
    Rd w g 1 A n (by8 bs) ∧ n ≤ 1048576 ∧ (∀ x ∈ bs, 0 ≤ x ∧ x ≤ 255)

theorem mask255 (y : Int) : ∃ x, bits .and .i64 y 255 = x ∧ 0 ≤ x ∧ x ≤ 255 := by
  refine ⟨_, rfl, ?_⟩
  have h2 : (BitVec.ofInt 64 255).toNat = 2 ^ 8 - 1 := by decide
  have h : bits .and .i64 y 255 = IntKind.i64.wrap ((BitVec.ofInt 64 y &&& BitVec.ofInt 64 255).toNat : Int) := rfl
  rw [h, BitVec.toNat_and, h2, Nat.and_two_pow_sub_one_eq_mod, IntKind.wrap_i64]
  omega

theorem mask30 (y : Int) : ∃ x, bits .and .i64 y 1073741823 = x ∧ 0 ≤ x ∧ x ≤ 1073741823 := by
  refine ⟨_, rfl, ?_⟩
  have h2 : (BitVec.ofInt 64 1073741823).toNat = 2 ^ 30 - 1 := by decide
  have h : bits .and .i64 y 1073741823 = IntKind.i64.wrap ((BitVec.ofInt 64 y &&& BitVec.ofInt 64 1073741823).toNat : Int) := rfl
  rw [h, BitVec.toNat_and, h2, Nat.and_two_pow_sub_one_eq_mod, IntKind.wrap_i64]
  omega
theorem step_h {w : World} {g : Nat} {s : Value} {i h : Int} {t : TypeId} (hg : w.heap[g]? = some (.cells #[s, .int .i64 i, .int .i64 h] t (0, 0))) (h2 : Int) :
    (w.setCell ⟨g, 2, none⟩ (.int .i64 h2)).heap[g]? = some (.cells #[s, .int .i64 i, .int .i64 h2] t (0, 0)) := heap_setCell_same w g 2 _ t _ hg
theorem step_i {w : World} {g : Nat} {s : Value} {i h : Int} {t : TypeId} (hg : w.heap[g]? = some (.cells #[s, .int .i64 i, .int .i64 h] t (0, 0))) (i2 : Int) :
    (w.setCell ⟨g, 1, none⟩ (.int .i64 i2)).heap[g]? = some (.cells #[s, .int .i64 i2, .int .i64 h] t (0, 0)) := heap_setCell_same w g 1 _ t _ hg
theorem cur_end {w w' : World} {g : Nat} {A : Option Addr} {n c i : Nat} {h : Int} {bs : List Int} (hg : w'.heap[g]? = some (.cells #[.slice A n c, .int .i64 i, .int .i64 h] 37 (0, 0))) (hi : i ≤ n)
    (hr : Rd w g 1 A n (by8 bs)) (hn : n ≤ 1048576) (hx : ∀ x ∈ bs, 0 ≤ x ∧ x ≤ 255) (hb : Below g w w') : Cur w' g A n c bs :=
  ⟨⟨i, h, hg, hi⟩, hr.below hb (Nat.le_refl _), hn, hx⟩

def SomeByte (g : Nat) (A : Option Addr) (n c : Nat) (bs : List Int) (w : World) (e : Ending) (w' : World) : Prop :=
  ∃ x : Int, e = .returned (.int .i64 x) ∧ 0 ≤ x ∧ x ≤ 255 ∧ Cur w' g A n c bs ∧ Below g w w'

theorem byte_c (g : Nat) (A : Option Addr) (n c : Nat) (bs : List Int) (w : World) (hc : Cur w g A n c bs) :
    Calls Try.prog 18 #[.pointer (some ⟨g, 0, none⟩)] w (SomeByte g A n c bs w) := by
  obtain ⟨⟨i, h, hg, hi⟩, hr, hn, hx⟩ := hc
  have c0 : w.cell? ⟨g, 0, none⟩ = some (.slice A n c) := cell_of_row w g 0 _ _ (0, 0) hg
  have c1 : w.cell? ⟨g, 1, none⟩ = some (.int .i64 i) := cell_of_row w g 1 _ _ (0, 0) hg
  have c2 : w.cell? ⟨g, 2, none⟩ = some (.int .i64 h) := cell_of_row w g 2 _ _ (0, 0) hg
  have f1 : w.frozen? ⟨g, 1, none⟩ = false := frozen_of_row w g 1 _ _ hg
  have f2 : w.frozen? ⟨g, 2, none⟩ = false := frozen_of_row w g 2 _ _ hg
  have HG := hide hg
  have HR := hide hr
  have HX := hide hx
  clear hg hr hx
  obtain ⟨h2, hh⟩ : ∃ h2, wrap64 (wrap64 (h * 6364136223846793005) + 1442695040888963407) = h2 := ⟨_, rfl⟩
  obtain ⟨x0, hx0, b0, b1⟩ := mask255 (bits .xor .i64 (h2 / 8589934592) (h2 / 35184372088832))
  by_cases hlt : i < n
  · obtain ⟨b, off, rfl, hbg, hcell⟩ := HR.out.2 (by omega)
    have hl : i < bs.length := by have := HR.out.1; simp only [by8, List.length_map] at this; omega
    have hv := HX.out _ (List.getElem_mem hl)
    have hc := hcell i _ (by8_get hl)
    obtain ⟨v, hv2⟩ : ∃ v, bs[i]'hl = v := ⟨_, rfl⟩
    rw [hv2] at hv hc
    clear hv2 hcell
    obtain ⟨x1, hx1, d0, d1⟩ := mask255 (x0 + v)
    go_enter Try.func18, Try.ntmps18
    go_wp2_with fail
    go_quiet (fail)
    go_wp2
    go_quiet (fail)
    go_wp2
    go_quiet (fail)
    go_wp2
    go_ret
    refine ⟨x1, rfl, d0, d1, cur_end (i := i + 1) (h := h2) ?h1 (by omega) HR.out hn HX.out ?h2, ?h2⟩
    case h1 => exact step_i (step_h HG.out h2) (i + 1)
    case h2 => repeat (first | exact Below.refl _ _ | refine bel_drewN ?_ _ | refine Below.setCell (p := ⟨g, _, none⟩) ?_ (Nat.le_refl g) _)
  · have hge : (n : Int) ≤ i := by omega
    go_enter Try.func18, Try.ntmps18
    go_wp2_with fail
    go_quiet (fail)
    go_wp2
    go_quiet (fail)
    go_wp2
    go_ret
    refine ⟨x0, rfl, b0, b1, cur_end (h := h2) ?k1 hi HR.out hn HX.out ?k2, ?k2⟩
    case k1 => exact step_h HG.out h2
    case k2 => repeat (first | exact Below.refl _ _ | refine bel_drewN ?_ _ | refine Below.setCell (p := ⟨g, _, none⟩) ?_ (Nat.le_refl g) _)
/-- a call that draws a number with a property, out of a cursor -/
def Some_ (P : Int → Prop) (g : Nat) (A : Option Addr) (n c : Nat) (bs : List Int) (w : World) (e : Ending) (w' : World) : Prop :=
  ∃ x : Int, e = .returned (.int .i64 x) ∧ P x ∧ Cur w' g A n c bs ∧ Below g w w'
def Two_ (g : Nat) (A : Option Addr) (n c : Nat) (bs : List Int) (w : World) (e : Ending) (w' : World) : Prop :=
  ∃ x y : Int, e = .returned (.tuple #[.int .i64 x, .int .i64 y]) ∧ Cur w' g A n c bs ∧ Below g w w'

theorem byte_k (g : Nat) (A : Option Addr) (n c : Nat) (bs : List Int) (w0 w : World) (hc : Cur w g A n c bs) (hb : Below g w0 w) :
    Calls Try.prog 18 #[.pointer (some ⟨g, 0, none⟩)] w (Some_ (fun x => 0 ≤ x ∧ x ≤ 255) g A n c bs w0) :=
  (byte_c g A n c bs w hc).mono fun _ _ ⟨x, he, x0, x1, hc', hb'⟩ => ⟨x, he, ⟨x0, x1⟩, hc', hb.trans hb'⟩

theorem w64_bd (n : Int) : -9223372036854775808 ≤ wrap64 n ∧ wrap64 n ≤ 9223372036854775807 := by unfold wrap64; omega
theorem mod_of (x m : Int) (h : 0 < m) : 0 ≤ x % m ∧ x % m < m := ⟨Int.emod_nonneg _ (by omega), Int.emod_lt_of_pos _ h⟩

theorem below_c (g : Nat) (A : Option Addr) (n c : Nat) (bs : List Int) (m : Int) (w0 w : World) (hm : 0 < m) (hc : Cur w g A n c bs) (hb : Below g w0 w) :
    Calls Try.prog 15 #[.pointer (some ⟨g, 0, none⟩), .int .i64 m] w (Some_ (fun x => 0 ≤ x ∧ x < m) g A n c bs w0) := by
  by_cases h : m ≤ 256
  · go_enter Try.func15, Try.ntmps15
    go_wp2_with (go_at_call 18; refine (byte_k g A n c bs w0 _ (by assumption) (by assumption)).mono ?_; rintro e w' ⟨x, rfl, ⟨x0, x1⟩, hc', hb'⟩)
    go_ret
    exact ⟨_, rfl, mod_of x m hm, hc', hb'⟩
  · have h' : 256 < m := by omega
    go_enter Try.func15, Try.ntmps15
    go_wp2_with fail
    refine (byte_k g A n c bs w0 _ hc hb).mono ?_
    rintro e w1 ⟨x1, rfl, ⟨p1, q1⟩, hc1, hb1⟩
    go_wp2_with fail
    refine (byte_k g A n c bs w0 _ hc1 hb1).mono ?_
    rintro e w2 ⟨x2, rfl, ⟨p2, q2⟩, hc2, hb2⟩
    go_wp2_with fail
    refine (byte_k g A n c bs w0 _ hc2 hb2).mono ?_
    rintro e w3 ⟨x3, rfl, ⟨p3, q3⟩, hc3, hb3⟩
    go_wp2_with fail
    refine (byte_k g A n c bs w0 _ hc3 hb3).mono ?_
    rintro e w4 ⟨x4, rfl, ⟨p4, q4⟩, hc4, hb4⟩
    go_wp2_with fail
    go_ret
    exact ⟨_, rfl, mod_of _ m hm, hc4, hb4⟩

theorem raw_c (g : Nat) (A : Option Addr) (n c : Nat) (bs : List Int) (w0 w : World) (hc : Cur w g A n c bs) (hb : Below g w0 w) :
    Calls Try.prog 19 #[.pointer (some ⟨g, 0, none⟩)] w (Some_ (fun x => -9223372036854775808 ≤ x ∧ x ≤ 9223372036854775807) g A n c bs w0) := by
  go_enter Try.func19, Try.ntmps19
  go_wp2_with fail
  refine (below_c g A n c bs _ w0 _ (by omega) hc hb).mono ?_
  rintro e w1 ⟨k, rfl, ⟨p1, q1⟩, hc1, hb1⟩
  clear hc hb
  go_wp2_with fail
  all_goals
    refine (below_c g A n c bs _ w0 _ (by omega) hc1 hb1).mono ?_
    rintro e w2 ⟨x, rfl, ⟨p2, q2⟩, hc2, hb2⟩
    clear hc1 hb1
    go_wp2_with fail
  all_goals first
    | (go_ret; refine ⟨_, rfl, ?_, hc2, hb2⟩; first | exact w64_bd _ | (constructor <;> omega))
    | skip
  refine (below_c g A n c bs _ w0 _ (by omega) hc2 hb2).mono ?_
  rintro e w3 ⟨y, rfl, ⟨p3, q3⟩, hc3, hb3⟩
  go_wp2_with fail
  go_ret
  exact ⟨_, rfl, w64_bd _, hc3, hb3⟩


/-- a new cursor -/
def New_ (A : Option Addr) (n c : Nat) (bs : List Int) (w : World) (e : Ending) (w' : World) : Prop :=
  ∃ g : Nat, e = .returned (.pointer (some ⟨g, 0, none⟩)) ∧ w.heap.size ≤ g ∧ Cur w' g A n c bs ∧ Below w.heap.size w w'

set_option maxRecDepth 100000 in
theorem new_c (A : Option Addr) (n c : Nat) (bs : List Int) (w : World) (hr : Rd w w.heap.size 1 A n (by8 bs)) (hn : n ≤ 1048576) (hx : ∀ x ∈ bs, 0 ≤ x ∧ x ≤ 255) :
    Calls Try.prog 9 #[.slice A n c] w (New_ A n c bs w) := by
  have HR := hide hr
  have HX := hide hx
  clear hr hx
  go_enter Try.func9, Try.ntmps9
  go_wp2_with fail
  go_loopw [3, 4] (fun h i wr => ∃ (k : Nat) (y : Int), k ≤ n ∧ i = .int .i64 k ∧ h = .int .i64 y ∧ 0 ≤ y ∧ y ≤ 1073741823 ∧ w = wr) (fun _ i _ => n - (intOf i).toNat)
  case atStart => exact ⟨0, _, Nat.zero_le _, rfl, rfl, by omega, by omega, rfl⟩
  case round =>
    obtain ⟨k, y, hk, rfl, rfl, y0, y1, rfl⟩ := hrel
    by_cases hlt : k < n
    · by_cases h4 : (k : Int) < 4000
      · obtain ⟨b, off, rfl, hbg, hcell⟩ := HR.out.2 (by omega)
        have hl : k < bs.length := by have := HR.out.1; simp only [by8, List.length_map] at this; omega
        have hv := HX.out _ (List.getElem_mem hl)
        have hc := hcell k _ (by8_get hl)
        obtain ⟨v, hv2⟩ : ∃ v, bs[k]'hl = v := ⟨_, rfl⟩
        rw [hv2] at hv hc
        clear hv2 hcell
        obtain ⟨x1, hx1, d0, d1⟩ := mask30 (y * 163 + v + 7)
        go_wp2_with fail
        go_roundw
        case rel => exact ⟨k + 1, x1, by omega, by go_num, rfl, d0, d1, trivial⟩
        case measure => simp [intOf]; omega
      · go_wp2_with fail
        go_ret
        exact ⟨_, rfl, Nat.le_refl _, ⟨⟨0, y, heap_alloc_new w _, Nat.zero_le _⟩, HR.out.below ((Below.refl w.heap.size w).alloc (Nat.le_refl _) _) (Nat.le_refl _), hn, HX.out⟩, (Below.refl _ _).alloc (Nat.le_refl _) _⟩
    · go_wp2_with fail
      go_ret
      exact ⟨_, rfl, Nat.le_refl _, ⟨⟨0, y, heap_alloc_new w _, Nat.zero_le _⟩, HR.out.below ((Below.refl w.heap.size w).alloc (Nat.le_refl _) _) (Nat.le_refl _), hn, HX.out⟩, (Below.refl _ _).alloc (Nat.le_refl _) _⟩
end Go.Proofs.Ytbedkcedooemdaa.Draw
