/- Modules: lists of elements in memory, a fixed number of cells each; the plain form of a module. No program in sight. -/
import Derived.Test.YtiinkfejdnfonaaGreatDoorBytes
import Derived.Test.YtiinkfejdnfonaaGreatDoorIns
namespace Go.Proofs.YtiinkfejdnfonaaGreatDoor.Mo
open Go.RowKit Go.Proofs.YtiinkfejdnfonaaGreatDoor.Num Go.Proofs.YtiinkfejdnfonaaGreatDoor.Mem Go.Proofs.YtiinkfejdnfonaaGreatDoor.Shape
set_option linter.unusedVariables false

section
variable {α : Type} {f : α → List Value} {s : Nat}
/-- the cells of a list of elements -/
def fl (f : α → List Value) : List α → List Value
  | [] => []
  | x :: l => f x ++ fl f l
theorem fl_len (h : ∀ x, (f x).length = s) : ∀ l : List α, (fl f l).length = l.length * s
  | [] => by simp [fl]
  | x :: l => by simp [fl, fl_len h l, h x, Nat.succ_mul]; omega
theorem fl_app : ∀ l m : List α, fl f (l ++ m) = fl f l ++ fl f m
  | [], m => rfl
  | x :: l, m => by simp [fl, fl_app l m]
theorem fl_snoc (l : List α) (x : α) : fl f (l ++ [x]) = fl f l ++ f x := by rw [fl_app]; simp [fl]
theorem fl_get (h : ∀ x, (f x).length = s) : ∀ (l : List α) (k : Nat) (x : α) (_ : l[k]? = some x) (j : Nat) (_ : j < s), (fl f l)[k * s + j]? = (f x)[j]?
  | [], k, x, hx, j, hj => by simp at hx
  | y :: l, 0, x, hx, j, hj => by
    simp only [List.getElem?_cons_zero, Option.some.injEq] at hx
    subst hx
    simp only [fl, Nat.zero_mul, Nat.zero_add]
    rw [List.getElem?_append_left (by rw [h]; exact hj)]
  | y :: l, k + 1, x, hx, j, hj => by
    have ih := fl_get h l k x (by simpa using hx) j hj
    simp only [fl]
    rw [List.getElem?_append_right (by rw [h, Nat.succ_mul]; omega), h, show (k + 1) * s + j - s = k * s + j by rw [Nat.succ_mul]; omega]
    exact ih
theorem rd_len {w : World} {B n : Nat} {A : Option Addr} {l : List α} (h : ∀ x, (f x).length = s) (hs : 0 < s) (hr : Rd w B s A n (fl f l)) : l.length = n := by
  have := hr.1
  rw [fl_len h] at this
  exact Nat.eq_of_mul_eq_mul_right hs this
theorem rd_get {w wr : World} {B n : Nat} {A : Option Addr} {l : List α} (h : ∀ x, (f x).length = s) (hs : 0 < s) (hr : Rd w B s A n (fl f l)) (k : Nat) (hk : k < n) (hc : ∀ p : Addr, p.block < B → wr.cell? p = w.cell? p) :
    ∃ b off x, A = some ⟨b, off, none⟩ ∧ l[k]? = some x ∧ b < B ∧ ∀ j u, (f x)[j]? = some u → wr.cell? ⟨b, off + (k * s + j), none⟩ = some u := by
  have hl := rd_len h hs hr
  obtain ⟨b, off, rfl, hb, hcell⟩ := hr.2 (by omega)
  have hx : l[k]? = some (l[k]'(by omega)) := List.getElem?_eq_getElem (by omega)
  refine ⟨b, off, _, rfl, hx, hb, fun j u hu => ?_⟩
  have hj : j < s := by have := (List.getElem?_eq_some_iff.1 hu).1; rw [h] at this; exact this
  rw [hc _ hb]
  exact hcell _ _ ((fl_get h l k _ hx j hj).trans hu)
theorem fl_made {z : Value} {x : α} (h : ∀ x, (f x).length = s) (hs : 0 < s) (hz : z.cells.toList = f x) (n : Nat) : (madeCells z.cells (n * s)).toList = fl f (List.replicate n x) := by
  have hzs : z.cells.size = s := by rw [← Array.length_toList, hz, h]
  apply List.ext_getElem?
  intro j
  by_cases hj : j < n * s
  · have hd : j / s < n := (Nat.div_lt_iff_lt_mul hs).2 hj
    have hm : j % s < s := Nat.mod_lt _ hs
    have e : j / s * s + j % s = j := Nat.div_add_mod' j s
    have h1 := fl_get (f := f) h (List.replicate n x) (j / s) x (by simp [hd]) (j % s) hm
    rw [e] at h1
    rw [h1, ← hz]
    simp [madeCells, hzs, hj, hm]
  · rw [List.getElem?_eq_none (by simp [madeCells]; omega), List.getElem?_eq_none (by rw [fl_len h]; simp; omega)]
theorem fl_set2 (h : ∀ x, (f x).length = 2) (l m : List α) (x z : α) (a b : Value) (hx : f x = [a, b]) (k : Nat) (hk : k = l.length * 2) : ((fl f (l ++ z :: m)).set k a).set (k + 1) b = fl f (l ++ x :: m) := by
  have hz := h z
  obtain ⟨z0, z1, hz⟩ : ∃ z0 z1, f z = [z0, z1] := by
    match hf : f z, hz with
    | [z0, z1], _ => exact ⟨z0, z1, rfl⟩
  have hl := fl_len h l
  rw [fl_app, fl_app, fl, fl, hx, hz]
  subst hk
  rw [← hl]
  simp
theorem fl_set3 (h : ∀ x, (f x).length = 3) (l m : List α) (x z : α) (a b c : Value) (hx : f x = [a, b, c]) (k : Nat) (hk : k = l.length * 3) : (((fl f (l ++ z :: m)).set k a).set (k + 1) b).set (k + 2) c = fl f (l ++ x :: m) := by
  have hz := h z
  obtain ⟨z0, z1, z2, hz⟩ : ∃ z0 z1 z2, f z = [z0, z1, z2] := by
    match hf : f z, hz with
    | [z0, z1, z2], _ => exact ⟨z0, z1, z2, rfl⟩
  have hl := fl_len h l
  rw [fl_app, fl_app, fl, fl, hx, hz]
  subst hk
  rw [← hl]
  simp
/-- the list while it is being copied -/
theorem rep_step (l : List α) (z : α) (n k : Nat) (x : α) (hx : l[k]? = some x) (hk : k < n) : l.take (k + 1) ++ List.replicate (n - (k + 1)) z = l.take k ++ x :: List.replicate (n - k - 1) z := by
  obtain ⟨hl, rfl⟩ := List.getElem?_eq_some_iff.1 hx
  rw [List.take_succ_eq_append_getElem hl, show n - (k + 1) = n - k - 1 by omega, List.append_assoc]
  rfl
theorem rep_open (l : List α) (z : α) (n k : Nat) (hk : k < n) : l ++ List.replicate (n - k) z = l ++ z :: List.replicate (n - k - 1) z := by
  obtain ⟨m, hm⟩ : ∃ m, n - k = m + 1 := ⟨n - k - 1, by omega⟩
  rw [hm, List.replicate_succ]
  rfl
end

/-- a slice's head -/
abbrev Hd := Option Addr × Nat × Nat
def hv (h : Hd) : Value := .slice h.1 h.2.1 h.2.2
abbrev Sig2 := Int × Int
abbrev Imp3 := ByteArray × ByteArray × Int
abbrev Glo2 := Bool × Int
abbrev Exp3 := ByteArray × Int × Int
/-- a function: its signature, its locals, where its body lies, the body -/
structure FV where
  sig : Int
  loc : Int
  hd : Hd
  body : List Ins3
structure DV where
  at_ : Int
  hd : Hd
  bytes : List Int
def sigC (x : Sig2) : List Value := [.int .i64 x.1, .int .i64 x.2]
def impC (x : Imp3) : List Value := [.string x.1, .string x.2.1, .int .i64 x.2.2]
def gloC (x : Glo2) : List Value := [.bool x.1, .int .i64 x.2]
def expC (x : Exp3) : List Value := [.string x.1, .int .i64 x.2.1, .int .i64 x.2.2]
def funC (x : FV) : List Value := [.int .i64 x.sig, .int .i64 x.loc, hv x.hd]
def datC (x : DV) : List Value := [.int .i64 x.at_, hv x.hd]
theorem sigL (x : Sig2) : (sigC x).length = 2 := rfl
theorem impL (x : Imp3) : (impC x).length = 3 := rfl
theorem gloL (x : Glo2) : (gloC x).length = 2 := rfl
theorem expL (x : Exp3) : (expC x).length = 3 := rfl
theorem funL (x : FV) : (funC x).length = 3 := rfl
theorem datL (x : DV) : (datC x).length = 2 := rfl
/-- plain functions, plain data -/
abbrev Fun3 := Int × Int × List Ins3
abbrev Dat2 := Int × List Int
def FV.pl (x : FV) : Fun3 := (x.sig, x.loc, x.body)
def DV.pl (x : DV) : Dat2 := (x.at_, x.bytes)
end Go.Proofs.YtiinkfejdnfonaaGreatDoor.Mo
