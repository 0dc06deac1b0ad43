/- What PutU and PutS write, in the program and in the reference: a contract each. -/
import Derived.Test.YtiinkfejdnfonaaGreatDoorNumC
import Derived.Test.YtiinkfejdnfonaaGreatDoorBytes
import Derived.Test.YtiinkfejdnfonaaGreatDoorLeb
namespace Go.Proofs.YtiinkfejdnfonaaGreatDoor.PutC
open Go.RowKit Go.Proofs.YtiinkfejdnfonaaGreatDoor.Num Go.Proofs.YtiinkfejdnfonaaGreatDoor.NumC Go.Proofs.YtiinkfejdnfonaaGreatDoor.Mem Go.Proofs.YtiinkfejdnfonaaGreatDoor.Leb

theorem one8 (x : Int) : ∀ u ∈ (#[Value.int .u8 x] : Array Value).toList, u.oneCell' = true := by
  intro u hu
  simp only [List.mem_singleton] at hu
  subst hu
  rfl
theorem own_nil (w : World) (e size : Nat) : Ow w w.heap.size e size none 0 0 [] := World.ownsRow_nil w _ e size
theorem own_empty (w : World) (e size : Nat) : Ow (w.alloc (.cells #[] e)) w.heap.size e size (some ⟨w.heap.size, 0, none⟩) 0 0 [] := World.ownsRow_made w #[] 0 (Nat.le_refl _) (Nat.zero_le _) (by simp)

/-- the loop's relation: so many pieces are written, the rest is still to come -/
def PU (base n : Nat) (bs full : List Int) (v s : Value) (wr : World) : Prop :=
  ∃ (pre : List Int) (x : Int) (f : Nat) (A : Option Addr) (c : Nat), v = .slice A (n + pre.length) c ∧ s = .int .i64 x ∧ 0 ≤ x ∧ x ≤ 4294967295 ∧ Hid (x < lim f ∧ pre ++ putU (f + 1) x = full ∧ pre.length + f = 4) ∧
    Hid (Ow wr base 5 1 A (n + pre.length) c (by8 (bs ++ pre)))

theorem iPutU (A : Option Addr) (n c : Nat) (bs : List Int) (k : Int) (w : World) (hr : Rd w w.heap.size 1 A n (by8 bs)) (hn : n ≤ 70368744177664) :
    Calls Tryz.prog 46 #[.slice A n c, .int .i64 k] w (Fresh 5 1 (n + (putU 5 (k % 4294967296)).length) (by8 (bs ++ putU 5 (k % 4294967296))) w) := by
  have hn' : (n : Int) ≤ 70368744177664 := by omega
  have HR := hide hr
  have HN := hide hn
  clear hr hn
  have hk := mod_bd k
  go_enter Tryz.func46, Tryz.ntmps46
  go_wp2_with (first
    | (at_builtin; refine app rfl _ _ rfl rfl rfl E8 (own_nil w _ _) HR.out (one_int _ _) (by have := HN.out; omega) (Nat.le_refl _) ?_; intro A1 c1 w1 ho1 hg1 hl1)
    | (go_at_call 91; refine (iPlain _ _).mono ?_; rintro e w' ⟨rfl, rfl⟩))
  have HB := hide ((Below.refl w.heap.size w).grown hg1 (Nat.le_refl _) (by intro g hg; cases hg))
  have HO := hide ho1
  clear ho1 hg1 hl1
  go_loopw [1, 5] (fun s v wr => PU w.heap.size n bs (putU 5 (k % 4294967296)) v s wr ∧ Hid (Below w.heap.size w wr)) (fun s _ _ => (intOf s).toNat)
  case atStart => exact ⟨⟨[], k % 4294967296, 4, A1, c1, rfl, rfl, by omega, by omega, ⟨by show _ < (34359738368 : Int); omega, rfl, rfl⟩, hide (by have := HO.out; rw [Nat.zero_add, List.nil_append] at this; simpa using this)⟩, HB⟩
  case round =>
    obtain ⟨⟨pre, x, f, A2, c2, rfl, rfl, x0, x1, HX, HP⟩, HB2⟩ := hrel
    have hp : pre.length ≤ 4 := by have := HX.out.2.2; omega
    have hp' : (pre.length : Int) ≤ 4 := by omega
    have HN2 := hide (show (n + pre.length + 1) * 1 ≤ 140737488355328 by have := HN.out; omega)
    by_cases hx : x < 128
    · go_wp2_with (at_builtin; refine app1 rfl _ _ rfl rfl rfl E8 HP.out rfl (one8 _) HN2.out HB2.out.size ?_; intro A3 c3 w3 ho3 hg3 hl3)
      go_ret
      have h1 := HX.out
      rw [putU_stop hx] at h1
      have e1 : n + (putU 5 (k % 4294967296)).length = n + pre.length + 1 := by rw [← h1.2.1]; simp; omega
      refine ⟨A3, c3, by rw [e1]; rfl, ?_, HB2.out.grown hg3 HB2.out.size (fun g hg => (HP.out.blk_lt g hg).1)⟩
      rw [e1, ← h1.2.1]
      simpa [by8] using ho3
    · have hx2 : 128 ≤ x := by omega
      go_wp2_with (at_builtin; refine app1 rfl _ _ rfl rfl rfl E8 HP.out rfl (one8 _) HN2.out HB2.out.size ?_; intro A3 c3 w3 ho3 hg3 hl3)
      go_roundw
      case rel =>
        obtain ⟨h1, h2, h3⟩ := HX.out
        obtain ⟨f', rfl⟩ : ∃ f', f = f' + 1 := by
          cases f with
          | zero => exact absurd h1 (by show ¬ x < 128; omega)
          | succ f' => exact ⟨f', rfl⟩
        rw [putU_more hx2] at h2
        refine ⟨⟨pre ++ [x % 128 + 128], x / 128, f', A3, c3, by simp [Nat.add_assoc], rfl, by omega, by omega, ⟨lim_div h1, by rw [List.append_assoc]; exact h2, by simp; omega⟩, ?_⟩, HB2.out.grown hg3 HB2.out.size (fun g hg => (HP.out.blk_lt g hg).1)⟩
        have e1 : n + (pre ++ [x % 128 + 128]).length = n + pre.length + 1 := by simp; omega
        rw [e1]
        refine hide ?_
        simpa [by8] using ho3
      case measure => simp [intOf]; omega
theorem sPutU (A : Option Addr) (n c : Nat) (bs : List Int) (k : Int) (w : World) (hr : Rd w w.heap.size 1 A n (by8 bs)) (hn : n ≤ 70368744177664) :
    Calls Tryz.prog 77 #[.slice A n c, .int .i64 k] w (Fresh 5 1 (n + (putU 5 (k % 4294967296)).length) (by8 (bs ++ putU 5 (k % 4294967296))) w) := by
  have hn' : (n : Int) ≤ 70368744177664 := by omega
  have HR := hide hr
  have HN := hide hn
  clear hr hn
  have hk := mod_bd k
  go_enter Tryz.func77, Tryz.ntmps77
  go_wp2_with (first
    | (at_builtin; refine app rfl _ _ rfl rfl rfl E8 (own_empty w _ _) (HR.out.alloc (Nat.le_refl _) _ |>.up (by simp)) (one_int _ _) (by have := HN.out; omega) (by simp) ?_; intro A1 c1 w1 ho1 hg1 hl1)
    | (go_at_call 105; refine (sPlain _ _).mono ?_; rintro e w' ⟨rfl, rfl⟩))
  have HB := hide (((Below.refl w.heap.size w).alloc (Nat.le_refl _) _).grown hg1 (by simp) (by intro g hg; cases hg; exact Nat.le_refl _))
  have HO := hide ho1
  clear ho1 hg1 hl1
  go_loopw [1, 5] (fun s v wr => PU w.heap.size n bs (putU 5 (k % 4294967296)) v s wr ∧ Hid (Below w.heap.size w wr)) (fun s _ _ => (intOf s).toNat)
  case atStart => exact ⟨⟨[], k % 4294967296, 4, A1, c1, rfl, rfl, by omega, by omega, ⟨by show _ < (34359738368 : Int); omega, rfl, rfl⟩, hide (by have := HO.out; rw [Nat.zero_add, List.nil_append] at this; simpa using this)⟩, HB⟩
  case round =>
    obtain ⟨⟨pre, x, f, A2, c2, rfl, rfl, x0, x1, HX, HP⟩, HB2⟩ := hrel
    have hp : pre.length ≤ 4 := by have := HX.out.2.2; omega
    have hp' : (pre.length : Int) ≤ 4 := by omega
    have HN2 := hide (show (n + pre.length + 1) * 1 ≤ 140737488355328 by have := HN.out; omega)
    by_cases hx : x < 128
    · go_wp2_with (at_builtin; refine app1 rfl _ _ rfl rfl rfl E8 HP.out rfl (one8 _) HN2.out HB2.out.size ?_; intro A3 c3 w3 ho3 hg3 hl3)
      go_ret
      have h1 := HX.out
      rw [putU_stop hx] at h1
      have e1 : n + (putU 5 (k % 4294967296)).length = n + pre.length + 1 := by rw [← h1.2.1]; simp; omega
      refine ⟨A3, c3, by rw [e1]; rfl, ?_, HB2.out.grown hg3 HB2.out.size (fun g hg => (HP.out.blk_lt g hg).1)⟩
      rw [e1, ← h1.2.1]
      simpa [by8] using ho3
    · have hx2 : 128 ≤ x := by omega
      go_wp2_with (at_builtin; refine app1 rfl _ _ rfl rfl rfl E8 HP.out rfl (one8 _) HN2.out HB2.out.size ?_; intro A3 c3 w3 ho3 hg3 hl3)
      go_roundw
      case rel =>
        obtain ⟨h1, h2, h3⟩ := HX.out
        obtain ⟨f', rfl⟩ : ∃ f', f = f' + 1 := by
          cases f with
          | zero => exact absurd h1 (by show ¬ x < 128; omega)
          | succ f' => exact ⟨f', rfl⟩
        rw [putU_more hx2] at h2
        refine ⟨⟨pre ++ [x % 128 + 128], x / 128, f', A3, c3, by simp [Nat.add_assoc], rfl, by omega, by omega, ⟨lim_div h1, by rw [List.append_assoc]; exact h2, by simp; omega⟩, ?_⟩, HB2.out.grown hg3 HB2.out.size (fun g hg => (HP.out.blk_lt g hg).1)⟩
        have e1 : n + (pre ++ [x % 128 + 128]).length = n + pre.length + 1 := by simp; omega
        rw [e1]
        refine hide ?_
        simpa [by8] using ho3
      case measure => simp [intOf]; omega
/-- the same of a number with a sign -/
def PS (base n : Nat) (bs full : List Int) (v s : Value) (wr : World) : Prop :=
  ∃ (pre : List Int) (x : Int) (f : Nat) (A : Option Addr) (c : Nat), v = .slice A (n + pre.length) c ∧ s = .int .i64 x ∧ -2147483648 ≤ x ∧ x ≤ 2147483647 ∧ Hid (x < limS f ∧ -limS f ≤ x ∧ pre ++ putS (f + 1) x = full ∧ pre.length + f = 4) ∧
    Hid (Ow wr base 5 1 A (n + pre.length) c (by8 (bs ++ pre)))
theorem ps_end {n : Nat} {bs full pre : List Int} {x : Int} {f : Nat} (HX : Hid (x < limS f ∧ -limS f ≤ x ∧ pre ++ putS (f + 1) x = full ∧ pre.length + f = 4)) (h0 : -64 ≤ x) (h1 : x ≤ 63) : n + full.length = n + pre.length + 1 ∧ by8 (bs ++ full) = by8 (bs ++ pre) ++ [.int .u8 (x % 128)] := by
  have h := HX.out.2.2.1
  rw [putS_stop h0 h1] at h
  rw [← h]
  exact ⟨by simp; omega, by simp [by8]⟩
theorem ps_step {base n c : Nat} {bs full pre : List Int} {x : Int} {f : Nat} {A : Option Addr} {wr : World} (HX : Hid (x < limS f ∧ -limS f ≤ x ∧ pre ++ putS (f + 1) x = full ∧ pre.length + f = 4)) {q : Int} (hq : q = x / 128) (h : x < -64 ∨ 63 < x) (x0 : -2147483648 ≤ x) (x1 : x ≤ 2147483647)
    (ho : Ow wr base 5 1 A (n + pre.length + 1) c (by8 (bs ++ pre) ++ [.int .u8 (x % 128 + 128)])) : PS base n bs full (.slice A (n + pre.length + 1) c) (.int .i64 q) wr := by
  subst hq
  obtain ⟨h1, h2, h3, h4⟩ := HX.out
  obtain ⟨f', rfl⟩ : ∃ f', f = f' + 1 := by
    cases f with
    | zero =>
      have h5 : x < 64 := h1
      have h6 : -64 ≤ x := h2
      omega
    | succ f' => exact ⟨f', rfl⟩
  rw [putS_more h] at h3
  refine ⟨pre ++ [x % 128 + 128], x / 128, f', A, c, by simp [Nat.add_assoc], rfl, by omega, by omega, ⟨limS_div h1, limS_div' h2, by rw [List.append_assoc]; exact h3, by simp; omega⟩, ?_⟩
  have e1 : n + (pre ++ [x % 128 + 128]).length = n + pre.length + 1 := by simp; omega
  rw [e1]
  refine hide ?_
  simpa [by8] using ho

theorem iPutS (A : Option Addr) (n c : Nat) (bs : List Int) (k : Int) (w : World) (hr : Rd w w.heap.size 1 A n (by8 bs)) (hn : n ≤ 70368744177664) :
    Calls Tryz.prog 92 #[.slice A n c, .int .i64 k] w (Fresh 5 1 (n + (putS 5 (wrap32 k)).length) (by8 (bs ++ putS 5 (wrap32 k))) w) := by
  have hn' : (n : Int) ≤ 70368744177664 := by omega
  have HR := hide hr
  have HN := hide hn
  clear hr hn
  have hk := w32_bd k
  go_enter Tryz.func92, Tryz.ntmps92
  go_wp2_with (first
    | (at_builtin; refine app rfl _ _ rfl rfl rfl E8 (own_nil w _ _) HR.out (one_int _ _) (by have := HN.out; omega) (Nat.le_refl _) ?_; intro A1 c1 w1 ho1 hg1 hl1)
    | (go_at_call 116; refine (iWrap _ _).mono ?_; rintro e w' ⟨rfl, rfl⟩))
  have HB := hide ((Below.refl w.heap.size w).grown hg1 (Nat.le_refl _) (by intro g hg; cases hg))
  have HO := hide ho1
  clear ho1 hg1 hl1
  go_loopw [1, 5] (fun s v wr => PS w.heap.size n bs (putS 5 (wrap32 k)) v s wr ∧ Hid (Below w.heap.size w wr)) (fun s _ _ => (intOf s).natAbs)
  case atStart => exact ⟨⟨[], wrap32 k, 4, A1, c1, rfl, rfl, by omega, by omega, ⟨by show _ < (17179869184 : Int); omega, by show -(17179869184 : Int) ≤ _; omega, rfl, rfl⟩, hide (by have := HO.out; rw [Nat.zero_add, List.nil_append] at this; simpa using this)⟩, HB⟩
  case round =>
    obtain ⟨⟨pre, x, f, A2, c2, rfl, rfl, x0, x1, HX, HP⟩, HB2⟩ := hrel
    have hp : pre.length ≤ 4 := by have := HX.out.2.2.2; omega
    have hp' : (pre.length : Int) ≤ 4 := by omega
    have HN2 := hide (show (n + pre.length + 1) * 1 ≤ 140737488355328 by have := HN.out; omega)
    have hm := and127 x
    have m0 : 0 ≤ x % 128 := by omega
    have m1 : x % 128 ≤ 127 := by omega
    by_cases hx : -64 ≤ x ∧ x ≤ 63
    · obtain ⟨ha, hb⟩ := hx
      by_cases hs : 0 ≤ x
      all_goals
        go_wp2_with (at_builtin; refine app1 rfl _ _ rfl rfl rfl E8 HP.out rfl (one8 _) HN2.out HB2.out.size ?_; intro A3 c3 w3 ho3 hg3 hl3)
        go_ret
        have he := ps_end (n := n) (bs := bs) HX ha hb
        refine ⟨A3, c3, by rw [he.1]; rfl, ?_, HB2.out.grown hg3 HB2.out.size (fun g hg => (HP.out.blk_lt g hg).1)⟩
        rw [he.1, he.2]
        exact ho3
    · by_cases hs : 63 < x
      all_goals
        go_wp2_with (at_builtin; refine app1 rfl _ _ rfl rfl rfl E8 HP.out rfl (one8 _) HN2.out HB2.out.size ?_; intro A3 c3 w3 ho3 hg3 hl3)
      all_goals
        go_roundw
        case rel => exact ⟨ps_step HX (by omega) (by omega) x0 x1 ho3, HB2.out.grown hg3 HB2.out.size (fun g hg => (HP.out.blk_lt g hg).1)⟩
        case measure => first | (simp [intOf]; omega) | simp [intOf]
theorem sPutS (A : Option Addr) (n c : Nat) (bs : List Int) (k : Int) (w : World) (hr : Rd w w.heap.size 1 A n (by8 bs)) (hn : n ≤ 70368744177664) :
    Calls Tryz.prog 80 #[.slice A n c, .int .i64 k] w (Fresh 5 1 (n + (putS 5 (wrap32 k)).length) (by8 (bs ++ putS 5 (wrap32 k))) w) := by
  have hn' : (n : Int) ≤ 70368744177664 := by omega
  have HR := hide hr
  have HN := hide hn
  clear hr hn
  have hk := w32_bd k
  go_enter Tryz.func80, Tryz.ntmps80
  go_wp2_with (first
    | (at_builtin; refine app rfl _ _ rfl rfl rfl E8 (own_empty w _ _) (HR.out.alloc (Nat.le_refl _) _ |>.up (by simp)) (one_int _ _) (by have := HN.out; omega) (by simp) ?_; intro A1 c1 w1 ho1 hg1 hl1)
    | (go_at_call 75; refine (sWrap _ _).mono ?_; rintro e w' ⟨rfl, rfl⟩))
  have HB := hide (((Below.refl w.heap.size w).alloc (Nat.le_refl _) _).grown hg1 (by simp) (by intro g hg; cases hg; exact Nat.le_refl _))
  have HO := hide ho1
  clear ho1 hg1 hl1
  go_loopw [1, 5] (fun s v wr => PS w.heap.size n bs (putS 5 (wrap32 k)) v s wr ∧ Hid (Below w.heap.size w wr)) (fun s _ _ => (intOf s).natAbs)
  case atStart => exact ⟨⟨[], wrap32 k, 4, A1, c1, rfl, rfl, by omega, by omega, ⟨by show _ < (17179869184 : Int); omega, by show -(17179869184 : Int) ≤ _; omega, rfl, rfl⟩, hide (by have := HO.out; rw [Nat.zero_add, List.nil_append] at this; simpa using this)⟩, HB⟩
  case round =>
    obtain ⟨⟨pre, x, f, A2, c2, rfl, rfl, x0, x1, HX, HP⟩, HB2⟩ := hrel
    have hp : pre.length ≤ 4 := by have := HX.out.2.2.2; omega
    have hp' : (pre.length : Int) ≤ 4 := by omega
    have HN2 := hide (show (n + pre.length + 1) * 1 ≤ 140737488355328 by have := HN.out; omega)
    have hm := and127 x
    have m0 : 0 ≤ x % 128 := by omega
    have m1 : x % 128 ≤ 127 := by omega
    by_cases hx : -64 ≤ x ∧ x ≤ 63
    · obtain ⟨ha, hb⟩ := hx
      by_cases hs : 0 ≤ x
      all_goals
        go_wp2_with (at_builtin; refine app1 rfl _ _ rfl rfl rfl E8 HP.out rfl (one8 _) HN2.out HB2.out.size ?_; intro A3 c3 w3 ho3 hg3 hl3)
        go_ret
        have he := ps_end (n := n) (bs := bs) HX ha hb
        refine ⟨A3, c3, by rw [he.1]; rfl, ?_, HB2.out.grown hg3 HB2.out.size (fun g hg => (HP.out.blk_lt g hg).1)⟩
        rw [he.1, he.2]
        exact ho3
    · by_cases hs : 63 < x
      all_goals
        go_wp2_with (at_builtin; refine app1 rfl _ _ rfl rfl rfl E8 HP.out rfl (one8 _) HN2.out HB2.out.size ?_; intro A3 c3 w3 ho3 hg3 hl3)
      all_goals
        go_roundw
        case rel => exact ⟨ps_step HX (by omega) (by omega) x0 x1 ho3, HB2.out.grown hg3 HB2.out.size (fun g hg => (HP.out.blk_lt g hg).1)⟩
        case measure => first | (simp [intOf]; omega) | simp [intOf]
end Go.Proofs.YtiinkfejdnfonaaGreatDoor.PutC
