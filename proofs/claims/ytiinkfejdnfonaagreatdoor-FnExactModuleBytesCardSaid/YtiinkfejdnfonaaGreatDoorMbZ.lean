/- The program's closure that adds a section: a contract for each kind of part. -/
import Derived.Test.YtiinkfejdnfonaaGreatDoorMbJ
import Derived.Deep.RegionLaw
namespace Go.Proofs.YtiinkfejdnfonaaGreatDoor.Mb
open Go.RowKit Go.Proofs.YtiinkfejdnfonaaGreatDoor.Num Go.Proofs.YtiinkfejdnfonaaGreatDoor.NumC Go.Proofs.YtiinkfejdnfonaaGreatDoor.Mem Go.Proofs.YtiinkfejdnfonaaGreatDoor.Shape Go.Proofs.YtiinkfejdnfonaaGreatDoor.Utf Go.Proofs.YtiinkfejdnfonaaGreatDoor.Ops Go.Proofs.YtiinkfejdnfonaaGreatDoor.Leb Go.Proofs.YtiinkfejdnfonaaGreatDoor.Mo Go.Proofs.YtiinkfejdnfonaaGreatDoor.Bb Go.Proofs.YtiinkfejdnfonaaGreatDoor.NameC Go.Proofs.YtiinkfejdnfonaaGreatDoor.PutC
set_option linter.unusedVariables false
/-- the bytes that grow in a variable of their own, beside the module's variable -/
structure IS (w : World) (g r : Nat) (cs : Array Value) (t : TypeId) (A : Option Addr) (d : Nat) (L : List Int) (W : World) : Prop where
  bel : Below w.heap.size w W
  box : Blk W r cs t
  ob : Blk W g #[.slice A L.length d] 31
  own : Ow W w.heap.size 5 1 A L.length d (by8 L)
  ty : t ≠ 5
  rg : r ≠ g
  wg : w.heap.size ≤ g
section
variable {w W W' : World} {g r : Nat} {cs : Array Value} {t : TypeId} {A : Option Addr} {d : Nat} {L : List Int}
theorem IS.keep (h : IS w g r cs t A d L W) (hb : Below W.heap.size W W') : IS w g r cs t A d L W' := ⟨bel_step h.bel hb h.bel.size, h.box.bel hb, h.ob.bel hb, h.own.below hb (Nat.le_refl _), h.ty, h.rg, h.wg⟩
theorem IS.drew (h : IS w g r cs t A d L W) : IS w g r cs t A d L W.drew := ⟨bel_drewN h.bel 1, h.box, h.ob, h.own, h.ty, h.rg, h.wg⟩
theorem IS.app {A' : Option Addr} {N' d' : Nat} {S L' : List Int} (h : IS w g r cs t A d L W) (ho : Ow W' w.heap.size 5 1 A' N' d' (by8 L ++ by8 S)) (hg : W.grownBy W' (blk A)) (hL : L ++ S = L') (hN : N' = L'.length) :
    IS w g r cs t A' d' L' (W'.setCell ⟨g, 0, none⟩ (.slice A' N' d')) ∧ Blk W' g #[.slice A L.length d] 31 := by
  subst hN
  have h1 : Blk W' g #[.slice A L.length d] 31 := bgrown h.ob hg (ne_ty h.own h.ob (by decide))
  have h2 : Below w.heap.size w W' := bel_grown h.bel hg h.bel.size (fun q hq => (h.own.blk_lt q hq).1)
  have h3 : Blk W' r cs t := bgrown h.box hg (ne_ty h.own h.box h.ty)
  have ho2 : Ow W' w.heap.size 5 1 A' L'.length d' (by8 L') := by rw [← hL, show by8 (L ++ S) = by8 L ++ by8 S by simp [by8]]; rw [← hL] at ho; exact ho
  have hne : blk A' ≠ some g := ne_ty ho2 h1 (by decide)
  refine ⟨⟨Below.setCell h2 h.wg _, h3.other h.rg, h1.set 0 _, ?_, h.ty, h.rg, h.wg⟩, h1⟩
  refine ho2.kept (row := some g) ?_ (by rcases hb : blk A' with _ | a; exact .inl rfl; exact .inr (by rw [← hb]; exact hne))
  exact ⟨rfl, rfl, rfl, by simp, fun k _ hk => heap_setCell_other W' ⟨g, 0, none⟩ k _ (fun e => hk (by simp [e]))⟩
end
/-- what the closure does to the variables -/
def AddR (w : World) (g r : Nat) (cs : Array Value) (t : TypeId) (L : List Int) (e : Ending) (W' : World) : Prop := e = .returned (.tuple #[]) ∧ ∃ (A' : Option Addr) (d' : Nat), IS w g r cs t A' d' L W'
set_option maxRecDepth 100000 in
set_option maxHeartbeats 4000000 in
theorem iAdd2 (w : World) (g r : Nat) (cs : Array Value) (t : TypeId) (A : Option Addr) (d : Nat) (L : List Int) (W : World) (h : IS w g r cs t A d L W) (id : Int) (count : Nat) (Xs : List (List Int)) (L' : List Int) (hl : Xs.length = count) (hc : (count : Int) ≤ 60) (hX : ∀ x ∈ Xs, x.length ≤ 17000)
    (hcall : ∀ (k : Nat) (x : List Int), Xs[k]? = some x → ∀ W', Below W.heap.size W W' → Calls Tryz.prog 43 #[.int .i64 k, .pointer (some ⟨r, 0, none⟩)] W' (Fresh 5 1 x.length (by8 x) W'))
    (hL : L ++ secB id count (Xs.flatMap (fun x => x)) = L') (hLb : (L.length : Int) ≤ 100000000) (h0 : 0 ≤ id) (h1 : id ≤ 255) :
    Calls Tryz.prog 40 #[.int .i64 id, .int .i64 count, .func (.func 43) #[] #[.pointer (some ⟨r, 0, none⟩)], .pointer (some ⟨g, 0, none⟩)] W (AddR w g r cs t L' ) := by
  have H0 := hide h
  by_cases hz : count = 0
  · subst hz
    rw [secB_0, List.append_nil] at hL
    subst hL
    clear h hX hcall hc hl
    go_enter Tryz.func40, Tryz.ntmps40
    go_wp2_with fail
    go_end0
    exact ⟨rfl, A, d, H0.out⟩
  · have hpos : (0 : Int) < count := by omega
    have C1 := hide (show Calls Tryz.prog 42 #[.int .i64 count, .func (.func 43) #[] #[.pointer (some ⟨r, 0, none⟩)]] W.drew (Fresh 5 1 (u count ++ Xs.flatMap (fun x => x)).length (by8 (u count ++ Xs.flatMap (fun x => x))) W.drew) from iParts2 ⟨r, 0, none⟩ Xs count W.drew hl hc hX (fun k x hx W' hb => hcall k x hx W' ⟨hb.os, hb.tape, hb.output, hb.size, hb.block⟩))
    have HXl := hide (show (u count ++ Xs.flatMap (fun x => x)).length ≤ 1030000 by
      have h2 := fm_take (k := Xs.length) (K := 17000) (f := (fun x => x)) (l := Xs) hX (by omega) (Nat.le_refl _)
      rw [fm_full rfl] at h2
      have h3 := u_le (count : Int)
      rw [List.length_append]
      omega)
    have HS := hide (secB_s (id := id) (n := count) (I := Xs.flatMap (fun x => x)) (by omega))
    obtain ⟨Y, hY⟩ : ∃ Y, u count ++ Xs.flatMap (fun x => x) = Y := ⟨_, rfl⟩
    rw [hY] at C1 HXl HS
    have C2 := hide (show ∀ A' n c W', Rd W' W'.heap.size 1 A' n (by8 Y) → (n : Int) ≤ 2000000 → Calls Tryz.prog 41 #[.int .i64 id, .slice A' n c] W' (Fresh 5 1 (id :: (u Y.length ++ Y)).length (by8 (id :: (u Y.length ++ Y))) W') from fun A' n c W' hr hn => iSection id A' n c Y W' hr hn h0 h1)
    have hzz := u_le (Y.length : Int)
    have HSl := hide (show (id :: (u Y.length ++ Y)).length ≤ 1030010 by have := HXl.out; simp only [List.length_cons, List.length_append]; omega)
    obtain ⟨Z, hZ⟩ : ∃ Z, id :: (u Y.length ++ Y) = Z := ⟨_, rfl⟩
    rw [hZ] at C2 HS HSl
    have hL2 : L ++ Z = L' := by rw [← hL, HS.out]
    have hL3 : L.length + Z.length = L'.length := by rw [← hL2, List.length_append]
    have HLL := hide (And.intro hL2 hL3)
    have c0 : W.cell? ⟨g, 0, none⟩ = some (.slice A L.length d) := H0.out.ob.cell 0
    have hYl : (Y.length : Int) ≤ 1030000 := by have := HXl.out; omega
    have hZl : (Z.length : Int) ≤ 1030010 := by have := HSl.out; omega
    clear hY hZ hL hL2 hL3 hz hzz h hX hcall hl HXl HSl HS
    go_enter Tryz.func40, Tryz.ntmps40
    go_wp2_with fail
    go_region_law (first
      | (have h0 := H2
         refine stepA (xs := by8 L) (ys := by8 Z) rfl _ _ rfl rfl rfl E8 H2.out.own HZ2.out (one8all _) (by omega) H2.out.bel.size ?_
         intro A3 d3 w3 ho3 hg3 hl3
         have H3 := hide (H2.out.app ho3 hg3 HLL.out.1 HLL.out.2)
         have c3 : w3.cell? ⟨g, 0, none⟩ = some (.slice A L.length d) := H3.out.2.cell 0
         have f3 : ∀ j, w3.frozen? ⟨g, j, none⟩ = false := fun j => H3.out.2.frozen j
         clear ho3 hg3 hl3)
      | (have h0 := H1
         go_simp
         go_at_call 41
         refine (C2.out _ _ _ w1 HY1.out (by omega)).mono ?_
         rintro e w2 ⟨A2, d2, rfl, ho2, hb2⟩
         have H2 := hide (H1.out.keep hb2)
         have HZ2 := hide ho2.rd
         have c2 : w2.cell? ⟨g, 0, none⟩ = some (.slice A L.length d) := H2.out.ob.cell 0
         clear ho2 hb2)
      | (go_simp
         go_at_call 42
         refine C1.out.mono ?_
         rintro e w1 ⟨A1, d1, rfl, ho1, hb1⟩
         have H1 := hide ((H0.out.drew).keep hb1)
         have HY1 := hide ho1.rd
         have c1 : w1.cell? ⟨g, 0, none⟩ = some (.slice A L.length d) := H1.out.ob.cell 0
         clear ho1 hb1))
    all_goals
      go_wp2_with fail
      go_end0
      exact ⟨rfl, A3, d3, by have h := H3.out.1; rw [HLL.out.2] at h ⊢; exact h⟩
set_option maxRecDepth 100000 in
set_option maxHeartbeats 4000000 in
theorem iAdd3 (w : World) (g r : Nat) (cs : Array Value) (t : TypeId) (A : Option Addr) (d : Nat) (L : List Int) (W : World) (h : IS w g r cs t A d L W) (id : Int) (count : Nat) (Xs : List (List Int)) (L' : List Int) (hl : Xs.length = count) (hc : (count : Int) ≤ 60) (hX : ∀ x ∈ Xs, x.length ≤ 17000)
    (hcall : ∀ (k : Nat) (x : List Int), Xs[k]? = some x → ∀ W', Below W.heap.size W W' → Calls Tryz.prog 45 #[.int .i64 k, .pointer (some ⟨r, 0, none⟩)] W' (Fresh 5 1 x.length (by8 x) W'))
    (hL : L ++ secB id count (Xs.flatMap (fun x => x)) = L') (hLb : (L.length : Int) ≤ 100000000) (h0 : 0 ≤ id) (h1 : id ≤ 255) :
    Calls Tryz.prog 40 #[.int .i64 id, .int .i64 count, .func (.func 45) #[] #[.pointer (some ⟨r, 0, none⟩)], .pointer (some ⟨g, 0, none⟩)] W (AddR w g r cs t L' ) := by
  have H0 := hide h
  by_cases hz : count = 0
  · subst hz
    rw [secB_0, List.append_nil] at hL
    subst hL
    clear h hX hcall hc hl
    go_enter Tryz.func40, Tryz.ntmps40
    go_wp2_with fail
    go_end0
    exact ⟨rfl, A, d, H0.out⟩
  · have hpos : (0 : Int) < count := by omega
    have C1 := hide (show Calls Tryz.prog 42 #[.int .i64 count, .func (.func 45) #[] #[.pointer (some ⟨r, 0, none⟩)]] W.drew (Fresh 5 1 (u count ++ Xs.flatMap (fun x => x)).length (by8 (u count ++ Xs.flatMap (fun x => x))) W.drew) from iParts3 ⟨r, 0, none⟩ Xs count W.drew hl hc hX (fun k x hx W' hb => hcall k x hx W' ⟨hb.os, hb.tape, hb.output, hb.size, hb.block⟩))
    have HXl := hide (show (u count ++ Xs.flatMap (fun x => x)).length ≤ 1030000 by
      have h2 := fm_take (k := Xs.length) (K := 17000) (f := (fun x => x)) (l := Xs) hX (by omega) (Nat.le_refl _)
      rw [fm_full rfl] at h2
      have h3 := u_le (count : Int)
      rw [List.length_append]
      omega)
    have HS := hide (secB_s (id := id) (n := count) (I := Xs.flatMap (fun x => x)) (by omega))
    obtain ⟨Y, hY⟩ : ∃ Y, u count ++ Xs.flatMap (fun x => x) = Y := ⟨_, rfl⟩
    rw [hY] at C1 HXl HS
    have C2 := hide (show ∀ A' n c W', Rd W' W'.heap.size 1 A' n (by8 Y) → (n : Int) ≤ 2000000 → Calls Tryz.prog 41 #[.int .i64 id, .slice A' n c] W' (Fresh 5 1 (id :: (u Y.length ++ Y)).length (by8 (id :: (u Y.length ++ Y))) W') from fun A' n c W' hr hn => iSection id A' n c Y W' hr hn h0 h1)
    have hzz := u_le (Y.length : Int)
    have HSl := hide (show (id :: (u Y.length ++ Y)).length ≤ 1030010 by have := HXl.out; simp only [List.length_cons, List.length_append]; omega)
    obtain ⟨Z, hZ⟩ : ∃ Z, id :: (u Y.length ++ Y) = Z := ⟨_, rfl⟩
    rw [hZ] at C2 HS HSl
    have hL2 : L ++ Z = L' := by rw [← hL, HS.out]
    have hL3 : L.length + Z.length = L'.length := by rw [← hL2, List.length_append]
    have HLL := hide (And.intro hL2 hL3)
    have c0 : W.cell? ⟨g, 0, none⟩ = some (.slice A L.length d) := H0.out.ob.cell 0
    have hYl : (Y.length : Int) ≤ 1030000 := by have := HXl.out; omega
    have hZl : (Z.length : Int) ≤ 1030010 := by have := HSl.out; omega
    clear hY hZ hL hL2 hL3 hz hzz h hX hcall hl HXl HSl HS
    go_enter Tryz.func40, Tryz.ntmps40
    go_wp2_with fail
    go_region_law (first
      | (have h0 := H2
         refine stepA (xs := by8 L) (ys := by8 Z) rfl _ _ rfl rfl rfl E8 H2.out.own HZ2.out (one8all _) (by omega) H2.out.bel.size ?_
         intro A3 d3 w3 ho3 hg3 hl3
         have H3 := hide (H2.out.app ho3 hg3 HLL.out.1 HLL.out.2)
         have c3 : w3.cell? ⟨g, 0, none⟩ = some (.slice A L.length d) := H3.out.2.cell 0
         have f3 : ∀ j, w3.frozen? ⟨g, j, none⟩ = false := fun j => H3.out.2.frozen j
         clear ho3 hg3 hl3)
      | (have h0 := H1
         go_simp
         go_at_call 41
         refine (C2.out _ _ _ w1 HY1.out (by omega)).mono ?_
         rintro e w2 ⟨A2, d2, rfl, ho2, hb2⟩
         have H2 := hide (H1.out.keep hb2)
         have HZ2 := hide ho2.rd
         have c2 : w2.cell? ⟨g, 0, none⟩ = some (.slice A L.length d) := H2.out.ob.cell 0
         clear ho2 hb2)
      | (go_simp
         go_at_call 42
         refine C1.out.mono ?_
         rintro e w1 ⟨A1, d1, rfl, ho1, hb1⟩
         have H1 := hide ((H0.out.drew).keep hb1)
         have HY1 := hide ho1.rd
         have c1 : w1.cell? ⟨g, 0, none⟩ = some (.slice A L.length d) := H1.out.ob.cell 0
         clear ho1 hb1))
    all_goals
      go_wp2_with fail
      go_end0
      exact ⟨rfl, A3, d3, by have h := H3.out.1; rw [HLL.out.2] at h ⊢; exact h⟩
set_option maxRecDepth 100000 in
set_option maxHeartbeats 4000000 in
theorem iAdd4 (w : World) (g r : Nat) (cs : Array Value) (t : TypeId) (A : Option Addr) (d : Nat) (L : List Int) (W : World) (h : IS w g r cs t A d L W) (id : Int) (count : Nat) (Xs : List (List Int)) (L' : List Int) (hl : Xs.length = count) (hc : (count : Int) ≤ 60) (hX : ∀ x ∈ Xs, x.length ≤ 17000)
    (hcall : ∀ (k : Nat) (x : List Int), Xs[k]? = some x → ∀ W', Below W.heap.size W W' → Calls Tryz.prog 48 #[.int .i64 k, .pointer (some ⟨r, 0, none⟩)] W' (Fresh 5 1 x.length (by8 x) W'))
    (hL : L ++ secB id count (Xs.flatMap (fun x => x)) = L') (hLb : (L.length : Int) ≤ 100000000) (h0 : 0 ≤ id) (h1 : id ≤ 255) :
    Calls Tryz.prog 40 #[.int .i64 id, .int .i64 count, .func (.func 48) #[] #[.pointer (some ⟨r, 0, none⟩)], .pointer (some ⟨g, 0, none⟩)] W (AddR w g r cs t L' ) := by
  have H0 := hide h
  by_cases hz : count = 0
  · subst hz
    rw [secB_0, List.append_nil] at hL
    subst hL
    clear h hX hcall hc hl
    go_enter Tryz.func40, Tryz.ntmps40
    go_wp2_with fail
    go_end0
    exact ⟨rfl, A, d, H0.out⟩
  · have hpos : (0 : Int) < count := by omega
    have C1 := hide (show Calls Tryz.prog 42 #[.int .i64 count, .func (.func 48) #[] #[.pointer (some ⟨r, 0, none⟩)]] W.drew (Fresh 5 1 (u count ++ Xs.flatMap (fun x => x)).length (by8 (u count ++ Xs.flatMap (fun x => x))) W.drew) from iParts4 ⟨r, 0, none⟩ Xs count W.drew hl hc hX (fun k x hx W' hb => hcall k x hx W' ⟨hb.os, hb.tape, hb.output, hb.size, hb.block⟩))
    have HXl := hide (show (u count ++ Xs.flatMap (fun x => x)).length ≤ 1030000 by
      have h2 := fm_take (k := Xs.length) (K := 17000) (f := (fun x => x)) (l := Xs) hX (by omega) (Nat.le_refl _)
      rw [fm_full rfl] at h2
      have h3 := u_le (count : Int)
      rw [List.length_append]
      omega)
    have HS := hide (secB_s (id := id) (n := count) (I := Xs.flatMap (fun x => x)) (by omega))
    obtain ⟨Y, hY⟩ : ∃ Y, u count ++ Xs.flatMap (fun x => x) = Y := ⟨_, rfl⟩
    rw [hY] at C1 HXl HS
    have C2 := hide (show ∀ A' n c W', Rd W' W'.heap.size 1 A' n (by8 Y) → (n : Int) ≤ 2000000 → Calls Tryz.prog 41 #[.int .i64 id, .slice A' n c] W' (Fresh 5 1 (id :: (u Y.length ++ Y)).length (by8 (id :: (u Y.length ++ Y))) W') from fun A' n c W' hr hn => iSection id A' n c Y W' hr hn h0 h1)
    have hzz := u_le (Y.length : Int)
    have HSl := hide (show (id :: (u Y.length ++ Y)).length ≤ 1030010 by have := HXl.out; simp only [List.length_cons, List.length_append]; omega)
    obtain ⟨Z, hZ⟩ : ∃ Z, id :: (u Y.length ++ Y) = Z := ⟨_, rfl⟩
    rw [hZ] at C2 HS HSl
    have hL2 : L ++ Z = L' := by rw [← hL, HS.out]
    have hL3 : L.length + Z.length = L'.length := by rw [← hL2, List.length_append]
    have HLL := hide (And.intro hL2 hL3)
    have c0 : W.cell? ⟨g, 0, none⟩ = some (.slice A L.length d) := H0.out.ob.cell 0
    have hYl : (Y.length : Int) ≤ 1030000 := by have := HXl.out; omega
    have hZl : (Z.length : Int) ≤ 1030010 := by have := HSl.out; omega
    clear hY hZ hL hL2 hL3 hz hzz h hX hcall hl HXl HSl HS
    go_enter Tryz.func40, Tryz.ntmps40
    go_wp2_with fail
    go_region_law (first
      | (have h0 := H2
         refine stepA (xs := by8 L) (ys := by8 Z) rfl _ _ rfl rfl rfl E8 H2.out.own HZ2.out (one8all _) (by omega) H2.out.bel.size ?_
         intro A3 d3 w3 ho3 hg3 hl3
         have H3 := hide (H2.out.app ho3 hg3 HLL.out.1 HLL.out.2)
         have c3 : w3.cell? ⟨g, 0, none⟩ = some (.slice A L.length d) := H3.out.2.cell 0
         have f3 : ∀ j, w3.frozen? ⟨g, j, none⟩ = false := fun j => H3.out.2.frozen j
         clear ho3 hg3 hl3)
      | (have h0 := H1
         go_simp
         go_at_call 41
         refine (C2.out _ _ _ w1 HY1.out (by omega)).mono ?_
         rintro e w2 ⟨A2, d2, rfl, ho2, hb2⟩
         have H2 := hide (H1.out.keep hb2)
         have HZ2 := hide ho2.rd
         have c2 : w2.cell? ⟨g, 0, none⟩ = some (.slice A L.length d) := H2.out.ob.cell 0
         clear ho2 hb2)
      | (go_simp
         go_at_call 42
         refine C1.out.mono ?_
         rintro e w1 ⟨A1, d1, rfl, ho1, hb1⟩
         have H1 := hide ((H0.out.drew).keep hb1)
         have HY1 := hide ho1.rd
         have c1 : w1.cell? ⟨g, 0, none⟩ = some (.slice A L.length d) := H1.out.ob.cell 0
         clear ho1 hb1))
    all_goals
      go_wp2_with fail
      go_end0
      exact ⟨rfl, A3, d3, by have h := H3.out.1; rw [HLL.out.2] at h ⊢; exact h⟩
set_option maxRecDepth 100000 in
set_option maxHeartbeats 4000000 in
theorem iAdd5 (w : World) (g r : Nat) (cs : Array Value) (t : TypeId) (A : Option Addr) (d : Nat) (L : List Int) (W : World) (h : IS w g r cs t A d L W) (id : Int) (count : Nat) (Xs : List (List Int)) (L' : List Int) (hl : Xs.length = count) (hc : (count : Int) ≤ 60) (hX : ∀ x ∈ Xs, x.length ≤ 17000)
    (hcall : ∀ (k : Nat) (x : List Int), Xs[k]? = some x → ∀ W', Below W.heap.size W W' → Calls Tryz.prog 50 #[.int .i64 k, .pointer (some ⟨r, 0, none⟩)] W' (Fresh 5 1 x.length (by8 x) W'))
    (hL : L ++ secB id count (Xs.flatMap (fun x => x)) = L') (hLb : (L.length : Int) ≤ 100000000) (h0 : 0 ≤ id) (h1 : id ≤ 255) :
    Calls Tryz.prog 40 #[.int .i64 id, .int .i64 count, .func (.func 50) #[] #[.pointer (some ⟨r, 0, none⟩)], .pointer (some ⟨g, 0, none⟩)] W (AddR w g r cs t L' ) := by
  have H0 := hide h
  by_cases hz : count = 0
  · subst hz
    rw [secB_0, List.append_nil] at hL
    subst hL
    clear h hX hcall hc hl
    go_enter Tryz.func40, Tryz.ntmps40
    go_wp2_with fail
    go_end0
    exact ⟨rfl, A, d, H0.out⟩
  · have hpos : (0 : Int) < count := by omega
    have C1 := hide (show Calls Tryz.prog 42 #[.int .i64 count, .func (.func 50) #[] #[.pointer (some ⟨r, 0, none⟩)]] W.drew (Fresh 5 1 (u count ++ Xs.flatMap (fun x => x)).length (by8 (u count ++ Xs.flatMap (fun x => x))) W.drew) from iParts5 ⟨r, 0, none⟩ Xs count W.drew hl hc hX (fun k x hx W' hb => hcall k x hx W' ⟨hb.os, hb.tape, hb.output, hb.size, hb.block⟩))
    have HXl := hide (show (u count ++ Xs.flatMap (fun x => x)).length ≤ 1030000 by
      have h2 := fm_take (k := Xs.length) (K := 17000) (f := (fun x => x)) (l := Xs) hX (by omega) (Nat.le_refl _)
      rw [fm_full rfl] at h2
      have h3 := u_le (count : Int)
      rw [List.length_append]
      omega)
    have HS := hide (secB_s (id := id) (n := count) (I := Xs.flatMap (fun x => x)) (by omega))
    obtain ⟨Y, hY⟩ : ∃ Y, u count ++ Xs.flatMap (fun x => x) = Y := ⟨_, rfl⟩
    rw [hY] at C1 HXl HS
    have C2 := hide (show ∀ A' n c W', Rd W' W'.heap.size 1 A' n (by8 Y) → (n : Int) ≤ 2000000 → Calls Tryz.prog 41 #[.int .i64 id, .slice A' n c] W' (Fresh 5 1 (id :: (u Y.length ++ Y)).length (by8 (id :: (u Y.length ++ Y))) W') from fun A' n c W' hr hn => iSection id A' n c Y W' hr hn h0 h1)
    have hzz := u_le (Y.length : Int)
    have HSl := hide (show (id :: (u Y.length ++ Y)).length ≤ 1030010 by have := HXl.out; simp only [List.length_cons, List.length_append]; omega)
    obtain ⟨Z, hZ⟩ : ∃ Z, id :: (u Y.length ++ Y) = Z := ⟨_, rfl⟩
    rw [hZ] at C2 HS HSl
    have hL2 : L ++ Z = L' := by rw [← hL, HS.out]
    have hL3 : L.length + Z.length = L'.length := by rw [← hL2, List.length_append]
    have HLL := hide (And.intro hL2 hL3)
    have c0 : W.cell? ⟨g, 0, none⟩ = some (.slice A L.length d) := H0.out.ob.cell 0
    have hYl : (Y.length : Int) ≤ 1030000 := by have := HXl.out; omega
    have hZl : (Z.length : Int) ≤ 1030010 := by have := HSl.out; omega
    clear hY hZ hL hL2 hL3 hz hzz h hX hcall hl HXl HSl HS
    go_enter Tryz.func40, Tryz.ntmps40
    go_wp2_with fail
    go_region_law (first
      | (have h0 := H2
         refine stepA (xs := by8 L) (ys := by8 Z) rfl _ _ rfl rfl rfl E8 H2.out.own HZ2.out (one8all _) (by omega) H2.out.bel.size ?_
         intro A3 d3 w3 ho3 hg3 hl3
         have H3 := hide (H2.out.app ho3 hg3 HLL.out.1 HLL.out.2)
         have c3 : w3.cell? ⟨g, 0, none⟩ = some (.slice A L.length d) := H3.out.2.cell 0
         have f3 : ∀ j, w3.frozen? ⟨g, j, none⟩ = false := fun j => H3.out.2.frozen j
         clear ho3 hg3 hl3)
      | (have h0 := H1
         go_simp
         go_at_call 41
         refine (C2.out _ _ _ w1 HY1.out (by omega)).mono ?_
         rintro e w2 ⟨A2, d2, rfl, ho2, hb2⟩
         have H2 := hide (H1.out.keep hb2)
         have HZ2 := hide ho2.rd
         have c2 : w2.cell? ⟨g, 0, none⟩ = some (.slice A L.length d) := H2.out.ob.cell 0
         clear ho2 hb2)
      | (go_simp
         go_at_call 42
         refine C1.out.mono ?_
         rintro e w1 ⟨A1, d1, rfl, ho1, hb1⟩
         have H1 := hide ((H0.out.drew).keep hb1)
         have HY1 := hide ho1.rd
         have c1 : w1.cell? ⟨g, 0, none⟩ = some (.slice A L.length d) := H1.out.ob.cell 0
         clear ho1 hb1))
    all_goals
      go_wp2_with fail
      go_end0
      exact ⟨rfl, A3, d3, by have h := H3.out.1; rw [HLL.out.2] at h ⊢; exact h⟩
set_option maxRecDepth 100000 in
set_option maxHeartbeats 4000000 in
theorem iAdd6 (w : World) (g r : Nat) (cs : Array Value) (t : TypeId) (A : Option Addr) (d : Nat) (L : List Int) (W : World) (h : IS w g r cs t A d L W) (id : Int) (count : Nat) (Xs : List (List Int)) (L' : List Int) (hl : Xs.length = count) (hc : (count : Int) ≤ 60) (hX : ∀ x ∈ Xs, x.length ≤ 17000)
    (hcall : ∀ (k : Nat) (x : List Int), Xs[k]? = some x → ∀ W', Below W.heap.size W W' → Calls Tryz.prog 52 #[.int .i64 k, .pointer (some ⟨r, 0, none⟩)] W' (Fresh 5 1 x.length (by8 x) W'))
    (hL : L ++ secB id count (Xs.flatMap (fun x => x)) = L') (hLb : (L.length : Int) ≤ 100000000) (h0 : 0 ≤ id) (h1 : id ≤ 255) :
    Calls Tryz.prog 40 #[.int .i64 id, .int .i64 count, .func (.func 52) #[] #[.pointer (some ⟨r, 0, none⟩)], .pointer (some ⟨g, 0, none⟩)] W (AddR w g r cs t L' ) := by
  have H0 := hide h
  by_cases hz : count = 0
  · subst hz
    rw [secB_0, List.append_nil] at hL
    subst hL
    clear h hX hcall hc hl
    go_enter Tryz.func40, Tryz.ntmps40
    go_wp2_with fail
    go_end0
    exact ⟨rfl, A, d, H0.out⟩
  · have hpos : (0 : Int) < count := by omega
    have C1 := hide (show Calls Tryz.prog 42 #[.int .i64 count, .func (.func 52) #[] #[.pointer (some ⟨r, 0, none⟩)]] W.drew (Fresh 5 1 (u count ++ Xs.flatMap (fun x => x)).length (by8 (u count ++ Xs.flatMap (fun x => x))) W.drew) from iParts6 ⟨r, 0, none⟩ Xs count W.drew hl hc hX (fun k x hx W' hb => hcall k x hx W' ⟨hb.os, hb.tape, hb.output, hb.size, hb.block⟩))
    have HXl := hide (show (u count ++ Xs.flatMap (fun x => x)).length ≤ 1030000 by
      have h2 := fm_take (k := Xs.length) (K := 17000) (f := (fun x => x)) (l := Xs) hX (by omega) (Nat.le_refl _)
      rw [fm_full rfl] at h2
      have h3 := u_le (count : Int)
      rw [List.length_append]
      omega)
    have HS := hide (secB_s (id := id) (n := count) (I := Xs.flatMap (fun x => x)) (by omega))
    obtain ⟨Y, hY⟩ : ∃ Y, u count ++ Xs.flatMap (fun x => x) = Y := ⟨_, rfl⟩
    rw [hY] at C1 HXl HS
    have C2 := hide (show ∀ A' n c W', Rd W' W'.heap.size 1 A' n (by8 Y) → (n : Int) ≤ 2000000 → Calls Tryz.prog 41 #[.int .i64 id, .slice A' n c] W' (Fresh 5 1 (id :: (u Y.length ++ Y)).length (by8 (id :: (u Y.length ++ Y))) W') from fun A' n c W' hr hn => iSection id A' n c Y W' hr hn h0 h1)
    have hzz := u_le (Y.length : Int)
    have HSl := hide (show (id :: (u Y.length ++ Y)).length ≤ 1030010 by have := HXl.out; simp only [List.length_cons, List.length_append]; omega)
    obtain ⟨Z, hZ⟩ : ∃ Z, id :: (u Y.length ++ Y) = Z := ⟨_, rfl⟩
    rw [hZ] at C2 HS HSl
    have hL2 : L ++ Z = L' := by rw [← hL, HS.out]
    have hL3 : L.length + Z.length = L'.length := by rw [← hL2, List.length_append]
    have HLL := hide (And.intro hL2 hL3)
    have c0 : W.cell? ⟨g, 0, none⟩ = some (.slice A L.length d) := H0.out.ob.cell 0
    have hYl : (Y.length : Int) ≤ 1030000 := by have := HXl.out; omega
    have hZl : (Z.length : Int) ≤ 1030010 := by have := HSl.out; omega
    clear hY hZ hL hL2 hL3 hz hzz h hX hcall hl HXl HSl HS
    go_enter Tryz.func40, Tryz.ntmps40
    go_wp2_with fail
    go_region_law (first
      | (have h0 := H2
         refine stepA (xs := by8 L) (ys := by8 Z) rfl _ _ rfl rfl rfl E8 H2.out.own HZ2.out (one8all _) (by omega) H2.out.bel.size ?_
         intro A3 d3 w3 ho3 hg3 hl3
         have H3 := hide (H2.out.app ho3 hg3 HLL.out.1 HLL.out.2)
         have c3 : w3.cell? ⟨g, 0, none⟩ = some (.slice A L.length d) := H3.out.2.cell 0
         have f3 : ∀ j, w3.frozen? ⟨g, j, none⟩ = false := fun j => H3.out.2.frozen j
         clear ho3 hg3 hl3)
      | (have h0 := H1
         go_simp
         go_at_call 41
         refine (C2.out _ _ _ w1 HY1.out (by omega)).mono ?_
         rintro e w2 ⟨A2, d2, rfl, ho2, hb2⟩
         have H2 := hide (H1.out.keep hb2)
         have HZ2 := hide ho2.rd
         have c2 : w2.cell? ⟨g, 0, none⟩ = some (.slice A L.length d) := H2.out.ob.cell 0
         clear ho2 hb2)
      | (go_simp
         go_at_call 42
         refine C1.out.mono ?_
         rintro e w1 ⟨A1, d1, rfl, ho1, hb1⟩
         have H1 := hide ((H0.out.drew).keep hb1)
         have HY1 := hide ho1.rd
         have c1 : w1.cell? ⟨g, 0, none⟩ = some (.slice A L.length d) := H1.out.ob.cell 0
         clear ho1 hb1))
    all_goals
      go_wp2_with fail
      go_end0
      exact ⟨rfl, A3, d3, by have h := H3.out.1; rw [HLL.out.2] at h ⊢; exact h⟩
set_option maxRecDepth 100000 in
set_option maxHeartbeats 4000000 in
theorem iAdd7 (w : World) (g r : Nat) (cs : Array Value) (t : TypeId) (A : Option Addr) (d : Nat) (L : List Int) (W : World) (h : IS w g r cs t A d L W) (id : Int) (count : Nat) (Xs : List (List Int)) (L' : List Int) (hl : Xs.length = count) (hc : (count : Int) ≤ 60) (hX : ∀ x ∈ Xs, x.length ≤ 17000)
    (hcall : ∀ (k : Nat) (x : List Int), Xs[k]? = some x → ∀ W', Below W.heap.size W W' → Calls Tryz.prog 53 #[.int .i64 k, .pointer (some ⟨r, 0, none⟩)] W' (Fresh 5 1 x.length (by8 x) W'))
    (hL : L ++ secB id count (Xs.flatMap (fun x => x)) = L') (hLb : (L.length : Int) ≤ 100000000) (h0 : 0 ≤ id) (h1 : id ≤ 255) :
    Calls Tryz.prog 40 #[.int .i64 id, .int .i64 count, .func (.func 53) #[] #[.pointer (some ⟨r, 0, none⟩)], .pointer (some ⟨g, 0, none⟩)] W (AddR w g r cs t L' ) := by
  have H0 := hide h
  by_cases hz : count = 0
  · subst hz
    rw [secB_0, List.append_nil] at hL
    subst hL
    clear h hX hcall hc hl
    go_enter Tryz.func40, Tryz.ntmps40
    go_wp2_with fail
    go_end0
    exact ⟨rfl, A, d, H0.out⟩
  · have hpos : (0 : Int) < count := by omega
    have C1 := hide (show Calls Tryz.prog 42 #[.int .i64 count, .func (.func 53) #[] #[.pointer (some ⟨r, 0, none⟩)]] W.drew (Fresh 5 1 (u count ++ Xs.flatMap (fun x => x)).length (by8 (u count ++ Xs.flatMap (fun x => x))) W.drew) from iParts7 ⟨r, 0, none⟩ Xs count W.drew hl hc hX (fun k x hx W' hb => hcall k x hx W' ⟨hb.os, hb.tape, hb.output, hb.size, hb.block⟩))
    have HXl := hide (show (u count ++ Xs.flatMap (fun x => x)).length ≤ 1030000 by
      have h2 := fm_take (k := Xs.length) (K := 17000) (f := (fun x => x)) (l := Xs) hX (by omega) (Nat.le_refl _)
      rw [fm_full rfl] at h2
      have h3 := u_le (count : Int)
      rw [List.length_append]
      omega)
    have HS := hide (secB_s (id := id) (n := count) (I := Xs.flatMap (fun x => x)) (by omega))
    obtain ⟨Y, hY⟩ : ∃ Y, u count ++ Xs.flatMap (fun x => x) = Y := ⟨_, rfl⟩
    rw [hY] at C1 HXl HS
    have C2 := hide (show ∀ A' n c W', Rd W' W'.heap.size 1 A' n (by8 Y) → (n : Int) ≤ 2000000 → Calls Tryz.prog 41 #[.int .i64 id, .slice A' n c] W' (Fresh 5 1 (id :: (u Y.length ++ Y)).length (by8 (id :: (u Y.length ++ Y))) W') from fun A' n c W' hr hn => iSection id A' n c Y W' hr hn h0 h1)
    have hzz := u_le (Y.length : Int)
    have HSl := hide (show (id :: (u Y.length ++ Y)).length ≤ 1030010 by have := HXl.out; simp only [List.length_cons, List.length_append]; omega)
    obtain ⟨Z, hZ⟩ : ∃ Z, id :: (u Y.length ++ Y) = Z := ⟨_, rfl⟩
    rw [hZ] at C2 HS HSl
    have hL2 : L ++ Z = L' := by rw [← hL, HS.out]
    have hL3 : L.length + Z.length = L'.length := by rw [← hL2, List.length_append]
    have HLL := hide (And.intro hL2 hL3)
    have c0 : W.cell? ⟨g, 0, none⟩ = some (.slice A L.length d) := H0.out.ob.cell 0
    have hYl : (Y.length : Int) ≤ 1030000 := by have := HXl.out; omega
    have hZl : (Z.length : Int) ≤ 1030010 := by have := HSl.out; omega
    clear hY hZ hL hL2 hL3 hz hzz h hX hcall hl HXl HSl HS
    go_enter Tryz.func40, Tryz.ntmps40
    go_wp2_with fail
    go_region_law (first
      | (have h0 := H2
         refine stepA (xs := by8 L) (ys := by8 Z) rfl _ _ rfl rfl rfl E8 H2.out.own HZ2.out (one8all _) (by omega) H2.out.bel.size ?_
         intro A3 d3 w3 ho3 hg3 hl3
         have H3 := hide (H2.out.app ho3 hg3 HLL.out.1 HLL.out.2)
         have c3 : w3.cell? ⟨g, 0, none⟩ = some (.slice A L.length d) := H3.out.2.cell 0
         have f3 : ∀ j, w3.frozen? ⟨g, j, none⟩ = false := fun j => H3.out.2.frozen j
         clear ho3 hg3 hl3)
      | (have h0 := H1
         go_simp
         go_at_call 41
         refine (C2.out _ _ _ w1 HY1.out (by omega)).mono ?_
         rintro e w2 ⟨A2, d2, rfl, ho2, hb2⟩
         have H2 := hide (H1.out.keep hb2)
         have HZ2 := hide ho2.rd
         have c2 : w2.cell? ⟨g, 0, none⟩ = some (.slice A L.length d) := H2.out.ob.cell 0
         clear ho2 hb2)
      | (go_simp
         go_at_call 42
         refine C1.out.mono ?_
         rintro e w1 ⟨A1, d1, rfl, ho1, hb1⟩
         have H1 := hide ((H0.out.drew).keep hb1)
         have HY1 := hide ho1.rd
         have c1 : w1.cell? ⟨g, 0, none⟩ = some (.slice A L.length d) := H1.out.ob.cell 0
         clear ho1 hb1))
    all_goals
      go_wp2_with fail
      go_end0
      exact ⟨rfl, A3, d3, by have h := H3.out.1; rw [HLL.out.2] at h ⊢; exact h⟩
set_option maxRecDepth 100000 in
set_option maxHeartbeats 4000000 in
theorem iAdd8 (w : World) (g r : Nat) (cs : Array Value) (t : TypeId) (A : Option Addr) (d : Nat) (L : List Int) (W : World) (h : IS w g r cs t A d L W) (id : Int) (count : Nat) (Xs : List (List Int)) (L' : List Int) (hl : Xs.length = count) (hc : (count : Int) ≤ 60) (hX : ∀ x ∈ Xs, x.length ≤ 17000)
    (hcall : ∀ (k : Nat) (x : List Int), Xs[k]? = some x → ∀ W', Below W.heap.size W W' → Calls Tryz.prog 55 #[.int .i64 k, .pointer (some ⟨r, 0, none⟩)] W' (Fresh 5 1 x.length (by8 x) W'))
    (hL : L ++ secB id count (Xs.flatMap (fun x => x)) = L') (hLb : (L.length : Int) ≤ 100000000) (h0 : 0 ≤ id) (h1 : id ≤ 255) :
    Calls Tryz.prog 40 #[.int .i64 id, .int .i64 count, .func (.func 55) #[] #[.pointer (some ⟨r, 0, none⟩)], .pointer (some ⟨g, 0, none⟩)] W (AddR w g r cs t L' ) := by
  have H0 := hide h
  by_cases hz : count = 0
  · subst hz
    rw [secB_0, List.append_nil] at hL
    subst hL
    clear h hX hcall hc hl
    go_enter Tryz.func40, Tryz.ntmps40
    go_wp2_with fail
    go_end0
    exact ⟨rfl, A, d, H0.out⟩
  · have hpos : (0 : Int) < count := by omega
    have C1 := hide (show Calls Tryz.prog 42 #[.int .i64 count, .func (.func 55) #[] #[.pointer (some ⟨r, 0, none⟩)]] W.drew (Fresh 5 1 (u count ++ Xs.flatMap (fun x => x)).length (by8 (u count ++ Xs.flatMap (fun x => x))) W.drew) from iParts8 ⟨r, 0, none⟩ Xs count W.drew hl hc hX (fun k x hx W' hb => hcall k x hx W' ⟨hb.os, hb.tape, hb.output, hb.size, hb.block⟩))
    have HXl := hide (show (u count ++ Xs.flatMap (fun x => x)).length ≤ 1030000 by
      have h2 := fm_take (k := Xs.length) (K := 17000) (f := (fun x => x)) (l := Xs) hX (by omega) (Nat.le_refl _)
      rw [fm_full rfl] at h2
      have h3 := u_le (count : Int)
      rw [List.length_append]
      omega)
    have HS := hide (secB_s (id := id) (n := count) (I := Xs.flatMap (fun x => x)) (by omega))
    obtain ⟨Y, hY⟩ : ∃ Y, u count ++ Xs.flatMap (fun x => x) = Y := ⟨_, rfl⟩
    rw [hY] at C1 HXl HS
    have C2 := hide (show ∀ A' n c W', Rd W' W'.heap.size 1 A' n (by8 Y) → (n : Int) ≤ 2000000 → Calls Tryz.prog 41 #[.int .i64 id, .slice A' n c] W' (Fresh 5 1 (id :: (u Y.length ++ Y)).length (by8 (id :: (u Y.length ++ Y))) W') from fun A' n c W' hr hn => iSection id A' n c Y W' hr hn h0 h1)
    have hzz := u_le (Y.length : Int)
    have HSl := hide (show (id :: (u Y.length ++ Y)).length ≤ 1030010 by have := HXl.out; simp only [List.length_cons, List.length_append]; omega)
    obtain ⟨Z, hZ⟩ : ∃ Z, id :: (u Y.length ++ Y) = Z := ⟨_, rfl⟩
    rw [hZ] at C2 HS HSl
    have hL2 : L ++ Z = L' := by rw [← hL, HS.out]
    have hL3 : L.length + Z.length = L'.length := by rw [← hL2, List.length_append]
    have HLL := hide (And.intro hL2 hL3)
    have c0 : W.cell? ⟨g, 0, none⟩ = some (.slice A L.length d) := H0.out.ob.cell 0
    have hYl : (Y.length : Int) ≤ 1030000 := by have := HXl.out; omega
    have hZl : (Z.length : Int) ≤ 1030010 := by have := HSl.out; omega
    clear hY hZ hL hL2 hL3 hz hzz h hX hcall hl HXl HSl HS
    go_enter Tryz.func40, Tryz.ntmps40
    go_wp2_with fail
    go_region_law (first
      | (have h0 := H2
         refine stepA (xs := by8 L) (ys := by8 Z) rfl _ _ rfl rfl rfl E8 H2.out.own HZ2.out (one8all _) (by omega) H2.out.bel.size ?_
         intro A3 d3 w3 ho3 hg3 hl3
         have H3 := hide (H2.out.app ho3 hg3 HLL.out.1 HLL.out.2)
         have c3 : w3.cell? ⟨g, 0, none⟩ = some (.slice A L.length d) := H3.out.2.cell 0
         have f3 : ∀ j, w3.frozen? ⟨g, j, none⟩ = false := fun j => H3.out.2.frozen j
         clear ho3 hg3 hl3)
      | (have h0 := H1
         go_simp
         go_at_call 41
         refine (C2.out _ _ _ w1 HY1.out (by omega)).mono ?_
         rintro e w2 ⟨A2, d2, rfl, ho2, hb2⟩
         have H2 := hide (H1.out.keep hb2)
         have HZ2 := hide ho2.rd
         have c2 : w2.cell? ⟨g, 0, none⟩ = some (.slice A L.length d) := H2.out.ob.cell 0
         clear ho2 hb2)
      | (go_simp
         go_at_call 42
         refine C1.out.mono ?_
         rintro e w1 ⟨A1, d1, rfl, ho1, hb1⟩
         have H1 := hide ((H0.out.drew).keep hb1)
         have HY1 := hide ho1.rd
         have c1 : w1.cell? ⟨g, 0, none⟩ = some (.slice A L.length d) := H1.out.ob.cell 0
         clear ho1 hb1))
    all_goals
      go_wp2_with fail
      go_end0
      exact ⟨rfl, A3, d3, by have h := H3.out.1; rw [HLL.out.2] at h ⊢; exact h⟩
end Go.Proofs.YtiinkfejdnfonaaGreatDoor.Mb
