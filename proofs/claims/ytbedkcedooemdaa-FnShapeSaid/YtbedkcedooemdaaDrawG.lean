/- What the generators of inputs draw out of a cursor, told with all that stays: nothing that was there is written but the cursor. Bytes are drawn, too. -/
import Derived.Test.YtbedkcedooemdaaDraw
import Derived.Test.YtbedkcedooemdaaBytes
namespace Go.Proofs.Ytbedkcedooemdaa.Draw
open Go.RowKit Go.Proofs.Ytbedkcedooemdaa.Num Go.Proofs.Ytbedkcedooemdaa.NumC Go.Proofs.Ytbedkcedooemdaa.Mem

theorem gr_drewN {w0 w : World} {row : Option Nat} (h : w0.grownBy w row) (n : Nat) : w0.grownBy (w.drewN n) row := ⟨h.os, h.tape, h.output, h.size, h.block⟩
theorem gr_set {w0 w : World} {g j : Nat} {u : Value} (h : w0.grownBy w (some g)) : w0.grownBy (w.setCell ⟨g, j, none⟩ u) (some g) :=
  grown_trans h ⟨rfl, rfl, rfl, by simp, fun k _ hk => heap_setCell_other w ⟨g, j, none⟩ k u (fun e => hk (by simp [e]))⟩
theorem gr_alloc {w0 w : World} {row : Option Nat} (h : w0.grownBy w row) (o : Obj) : w0.grownBy (w.alloc o) row :=
  ⟨h.os, h.tape, h.output, by have := h.size; simp; omega, fun k hk hne => (Below.heap_alloc w o k (Nat.lt_of_lt_of_le hk h.size)).trans (h.block k hk hne)⟩
theorem gr_new {w0 w w' : World} {g : Nat} {row : Option Nat} (h : w0.grownBy w (some g)) (hg : w.grownBy w' row) (hr : ∀ b, row = some b → w0.heap.size ≤ b) : w0.grownBy w' (some g) :=
  ⟨hg.os.trans h.os, hg.tape.trans h.tape, hg.output.trans h.output, Nat.le_trans h.size hg.size, fun k hk hne => (hg.block k (Nat.lt_of_lt_of_le hk h.size) (fun e => by have := hr k e.symm; omega)).trans (h.block k hk hne)⟩
theorem gr_below {w0 w : World} {g B : Nat} (h : w0.grownBy w (some g)) (hB : B ≤ g) (hs : g ≤ w0.heap.size) : Below B w0 w :=
  ⟨h.os, h.tape, h.output, h.size, fun k hk => h.block k (by omega) (fun e => by injection e with e; omega)⟩
theorem cur_lt {w : World} {g : Nat} {A : Option Addr} {n c : Nat} {bs : List Int} (hc : Cur w g A n c bs) : g < w.heap.size := by
  obtain ⟨⟨i, h, hg, _⟩, _⟩ := hc
  exact (Array.getElem?_eq_some_iff.1 hg).1
/-- a cursor is kept over what happens in blocks behind it -/
theorem cur_grown {w w' : World} {g : Nat} {A : Option Addr} {n c : Nat} {bs : List Int} {row : Option Nat} (hc : Cur w g A n c bs) (hg : w.grownBy w' row) (hr : ∀ b, row = some b → g < b) : Cur w' g A n c bs := by
  have hl := cur_lt hc
  obtain ⟨⟨i, h, hh, hi⟩, hrd, hn, hx⟩ := hc
  refine ⟨⟨i, h, (hg.block g hl (fun e => by have := hr g e.symm; omega)).trans hh, hi⟩, ?_, hn, hx⟩
  exact hrd.keep (Nat.le_refl _) fun p hp _ => World.cell?_of_block (hg.block p.block (by omega) (fun e => by have := hr _ e.symm; omega))
theorem cur_alloc {w : World} {g : Nat} {A : Option Addr} {n c : Nat} {bs : List Int} (hc : Cur w g A n c bs) (o : Obj) : Cur (w.alloc o) g A n c bs :=
  cur_grown (row := none) hc (gr_alloc (World.grownBy.refl w none) o) (fun b e => by cases e)
theorem cur_drewN {w : World} {g : Nat} {A : Option Addr} {n c : Nat} {bs : List Int} (hc : Cur w g A n c bs) (k : Nat) : Cur (w.drewN k) g A n c bs := hc

/-- a call that draws a number with a property, out of a cursor -/
def SomeG (P : Int → Prop) (g : Nat) (A : Option Addr) (n c : Nat) (bs : List Int) (w : World) (e : Ending) (w' : World) : Prop :=
  ∃ x : Int, e = .returned (.int .i64 x) ∧ P x ∧ Cur w' g A n c bs ∧ w.grownBy w' (some g)

theorem byte_g0 (g : Nat) (A : Option Addr) (n c : Nat) (bs : List Int) (w : World) (hc : Cur w g A n c bs) :
    Calls Try.prog 18 #[.pointer (some ⟨g, 0, none⟩)] w (SomeG (fun x => 0 ≤ x ∧ x ≤ 255) g A n c bs w) := by
  obtain ⟨⟨i, h, hg, hi⟩, hr, hn, hx⟩ := hc
  have c0 : w.cell? ⟨g, 0, none⟩ = some (.slice A n c) := cell_of_row w g 0 _ _ (0, 0) hg
  have c1 : w.cell? ⟨g, 1, none⟩ = some (.int .i64 i) := cell_of_row w g 1 _ _ (0, 0) hg
  have c2 : w.cell? ⟨g, 2, none⟩ = some (.int .i64 h) := cell_of_row w g 2 _ _ (0, 0) hg
  have f1 : w.frozen? ⟨g, 1, none⟩ = false := frozen_of_row w g 1 _ _ hg
  have f2 : w.frozen? ⟨g, 2, none⟩ = false := frozen_of_row w g 2 _ _ hg
  have HG := hide hg
  have HR := hide hr
  have HX := hide hx
  clear hg hr hx
  obtain ⟨h2, hh⟩ : ∃ h2, wrap64 (wrap64 (h * 6364136223846793005) + 1442695040888963407) = h2 := ⟨_, rfl⟩
  obtain ⟨x0, hx0, b0, b1⟩ := mask255 (bits .xor .i64 (h2 / 8589934592) (h2 / 35184372088832))
  by_cases hlt : i < n
  · obtain ⟨b, off, rfl, hbg, hcell⟩ := HR.out.2 (by omega)
    have hl : i < bs.length := by have := HR.out.1; simp only [by8, List.length_map] at this; omega
    have hv := HX.out _ (List.getElem_mem hl)
    have hc := hcell i _ (by8_get hl)
    obtain ⟨v, hv2⟩ : ∃ v, bs[i]'hl = v := ⟨_, rfl⟩
    rw [hv2] at hv hc
    clear hv2 hcell
    obtain ⟨x1, hx1, d0, d1⟩ := mask255 (x0 + v)
    go_enter Try.func18, Try.ntmps18
    go_wp2_with fail
    go_quiet (fail)
    go_wp2
    go_quiet (fail)
    go_wp2
    go_quiet (fail)
    go_wp2
    go_ret
    refine ⟨x1, rfl, ⟨d0, d1⟩, cur_end (i := i + 1) (h := h2) ?h1 (by omega) HR.out hn HX.out ?h2, ?h3⟩
    case h1 => exact step_i (step_h HG.out h2) (i + 1)
    case h2 => repeat (first | exact Below.refl _ _ | refine bel_drewN ?_ _ | refine Below.setCell (p := ⟨g, _, none⟩) ?_ (Nat.le_refl g) _)
    case h3 => repeat (first | exact World.grownBy.refl _ _ | refine gr_drewN ?_ _ | refine gr_set ?_)
  · have hge : (n : Int) ≤ i := by omega
    go_enter Try.func18, Try.ntmps18
    go_wp2_with fail
    go_quiet (fail)
    go_wp2
    go_quiet (fail)
    go_wp2
    go_ret
    refine ⟨x0, rfl, ⟨b0, b1⟩, cur_end (h := h2) ?k1 hi HR.out hn HX.out ?k2, ?k3⟩
    case k1 => exact step_h HG.out h2
    case k2 => repeat (first | exact Below.refl _ _ | refine bel_drewN ?_ _ | refine Below.setCell (p := ⟨g, _, none⟩) ?_ (Nat.le_refl g) _)
    case k3 => repeat (first | exact World.grownBy.refl _ _ | refine gr_drewN ?_ _ | refine gr_set ?_)
section
variable (g : Nat) (A : Option Addr) (n c : Nat) (bs : List Int) (w0 w : World) (hc : Cur w g A n c bs) (hb : w0.grownBy w (some g))
include hc hb
theorem byte_g : Calls Try.prog 18 #[.pointer (some ⟨g, 0, none⟩)] w (SomeG (fun x => 0 ≤ x ∧ x ≤ 255) g A n c bs w0) :=
  (byte_g0 g A n c bs w hc).mono fun _ _ ⟨x, he, hx, hc', hb'⟩ => ⟨x, he, hx, hc', grown_trans hb hb'⟩
theorem below_g (m : Int) (hm : 0 < m) : Calls Try.prog 15 #[.pointer (some ⟨g, 0, none⟩), .int .i64 m] w (SomeG (fun x => 0 ≤ x ∧ x < m) g A n c bs w0) := by
  by_cases h : m ≤ 256
  · go_enter Try.func15, Try.ntmps15
    go_wp2_with (go_at_call 18; refine (byte_g g A n c bs w0 _ (by assumption) (by assumption)).mono ?_; rintro e w' ⟨x, rfl, ⟨x0, x1⟩, hc', hb'⟩)
    go_ret
    exact ⟨_, rfl, mod_of x m hm, hc', hb'⟩
  · have h' : 256 < m := by omega
    go_enter Try.func15, Try.ntmps15
    go_wp2_with fail
    refine (byte_g g A n c bs w0 _ hc hb).mono ?_
    rintro e w1 ⟨x1, rfl, ⟨p1, q1⟩, hc1, hb1⟩
    go_wp2_with fail
    refine (byte_g g A n c bs w0 _ hc1 hb1).mono ?_
    rintro e w2 ⟨x2, rfl, ⟨p2, q2⟩, hc2, hb2⟩
    go_wp2_with fail
    refine (byte_g g A n c bs w0 _ hc2 hb2).mono ?_
    rintro e w3 ⟨x3, rfl, ⟨p3, q3⟩, hc3, hb3⟩
    go_wp2_with fail
    refine (byte_g g A n c bs w0 _ hc3 hb3).mono ?_
    rintro e w4 ⟨x4, rfl, ⟨p4, q4⟩, hc4, hb4⟩
    go_wp2_with fail
    go_ret
    exact ⟨_, rfl, mod_of _ m hm, hc4, hb4⟩
theorem raw_g : Calls Try.prog 19 #[.pointer (some ⟨g, 0, none⟩)] w (SomeG (fun x => -9223372036854775808 ≤ x ∧ x ≤ 9223372036854775807) g A n c bs w0) := by
  go_enter Try.func19, Try.ntmps19
  go_wp2_with fail
  refine (below_g g A n c bs w0 _ hc hb _ (by omega)).mono ?_
  rintro e w1 ⟨k, rfl, ⟨p1, q1⟩, hc1, hb1⟩
  clear hc hb
  go_wp2_with fail
  all_goals
    refine (below_g g A n c bs w0 _ hc1 hb1 _ (by omega)).mono ?_
    rintro e w2 ⟨x, rfl, ⟨p2, q2⟩, hc2, hb2⟩
    clear hc1 hb1
    go_wp2_with fail
  all_goals first
    | (go_ret; refine ⟨_, rfl, ?_, hc2, hb2⟩; first | exact w64_bd _ | (constructor <;> omega))
    | skip
  refine (below_g g A n c bs w0 _ hc2 hb2 _ (by omega)).mono ?_
  rintro e w3 ⟨y, rfl, ⟨p3, q3⟩, hc3, hb3⟩
  go_wp2_with fail
  go_ret
  exact ⟨_, rfl, w64_bd _, hc3, hb3⟩
end

/-- bytes that a call draws into new memory -/
def BytesG (m : Nat) (g : Nat) (A : Option Addr) (n c : Nat) (bs : List Int) (w : World) (e : Ending) (w' : World) : Prop :=
  ∃ (B : Option Addr) (d : Nat) (l : List Int), e = .returned (.slice B l.length d) ∧ l.length ≤ m ∧ (∀ x ∈ l, 0 ≤ x ∧ x ≤ 255) ∧ Ow w' w.heap.size 5 1 B l.length d (by8 l) ∧ Cur w' g A n c bs ∧ w.grownBy w' (some g)
theorem one8g (x : Int) : ∀ u ∈ (#[Value.int .u8 x] : Array Value).toList, u.oneCell' = true := by
  intro u hu
  simp only [List.mem_singleton] at hu
  subst hu
  rfl
theorem by8_app (a b : List Int) : by8 (a ++ b) = by8 a ++ by8 b := by simp [by8]
theorem own_empty_g (w : World) (e size : Nat) : Ow (w.alloc (.cells #[] e)) w.heap.size e size (some ⟨w.heap.size, 0, none⟩) 0 0 [] := World.ownsRow_made w #[] 0 (Nat.le_refl _) (Nat.zero_le _) (by simp)
/-- the row of bytes that is made -/
def BR (base : Nat) (j : Nat) (s : Value) (w : World) : Prop := ∃ (B : Option Addr) (d : Nat) (l : List Int), s = .slice B l.length d ∧ l.length ≤ j ∧ (∀ x ∈ l, 0 ≤ x ∧ x ≤ 255) ∧ Ow w base 5 1 B l.length d (by8 l)
end Go.Proofs.Ytbedkcedooemdaa.Draw
