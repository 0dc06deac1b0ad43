/- Modules of a right form: the plain law. No program in sight. -/
import Derived.Test.YtiinkfejdnfonaaGreatDoorModM
import Derived.Test.YtiinkfejdnfonaaGreatDoorBbC
import Derived.Test.YtiinkfejdnfonaaGreatDoorUtfN
namespace Go.Proofs.YtiinkfejdnfonaaGreatDoor.Mo
open Go.RowKit Go.Proofs.YtiinkfejdnfonaaGreatDoor.Num Go.Proofs.YtiinkfejdnfonaaGreatDoor.Mem Go.Proofs.YtiinkfejdnfonaaGreatDoor.Shape Go.Proofs.YtiinkfejdnfonaaGreatDoor.Utf Go.Proofs.YtiinkfejdnfonaaGreatDoor.Ops
set_option linter.unusedVariables false
def nameR (s : ByteArray) : Bool := utfOk s && decide ((s.size : Int) ≤ 40)
def inR (lo hi x : Int) : Bool := decide (lo ≤ x ∧ x ≤ hi)
def kindR (q : Int) : Bool := decide (q = 0 ∨ q = 2 ∨ q = 3)
def bodyR (l : List Ins3) : Bool := Bb.allOk l && (decide ((l.length : Int) ≤ 1500) && shapeOk l)
def sigR (x : Sig2) : Bool := inR 0 60 x.1 && inR 0 1 x.2
def impR (S : Nat) (x : Imp3) : Bool := inR 0 ((S : Int) - 1) x.2.2 && (nameR x.1 && nameR x.2.1)
def funR (S : Nat) (x : Fun3) : Bool := inR 0 ((S : Int) - 1) x.1 && (inR 0 60 x.2.1 && bodyR x.2.2)
def gloR (x : Glo2) : Bool := inR (-2147483648) 2147483647 x.2
def expR (x : Exp3) : Bool := nameR x.1 && (kindR x.2.1 && inR 0 1000 x.2.2)
def datR (x : Dat2) : Bool := inR (-2147483648) 2147483647 x.1 && decide ((x.2.length : Int) ≤ 2000)
def pagesR (p m : Int) : Bool := inR (-1) 2 p && decide (m = -1 ∨ (p ≠ -1 ∧ p ≤ m ∧ m ≤ 65536))
def partsR (M : Md) : Bool := (decide ((M.sigs.length : Int) ≤ 30) && decide ((M.imps.length : Int) + M.funs.length ≤ 60)) && (M.sigs.all sigR && (M.imps.all (impR M.sigs.length) && M.funs.all (funR M.sigs.length)))
def formR (M : Md) : Bool := partsR M && (pagesR M.pages M.most && ((decide ((M.glos.length : Int) ≤ 30) && (decide ((M.exps.length : Int) ≤ 60) && decide ((M.dats.length : Int) ≤ 20))) && (M.glos.all gloR && (M.exps.all expR && M.dats.all datR))))
/-- the same, said of the lists as they lie in memory -/
structure PartsQ (m : MV) : Prop where
  a1 : (m.sh.2.1 : Int) ≤ 30
  a2 : (m.ih.2.1 : Int) + m.fh.2.1 ≤ 60
  sg : ∀ x ∈ m.sigs, sigR x = true
  im : ∀ x ∈ m.imps, impR m.sh.2.1 x = true
  fu : ∀ x ∈ m.funs, funR m.sh.2.1 x.pl = true
structure FormQ (m : MV) : Prop where
  P : PartsQ m
  pg : pagesR m.pages m.most = true
  a3 : (m.gh.2.1 : Int) ≤ 30
  a4 : (m.eh.2.1 : Int) ≤ 60
  a5 : (m.dh.2.1 : Int) ≤ 20
  gl : ∀ x ∈ m.glos, gloR x = true
  ex : ∀ x ∈ m.exps, expR x = true
  da : ∀ x ∈ m.dats, datR x.pl = true
theorem partsQ_iff (m : MV) (W : World) (h : m.Reads W) : partsR m.pl = true ↔ PartsQ m := by
  have q1 := rd_len sigL (by omega) h.S
  have q2 := rd_len impL (by omega) h.I
  have q3 := rd_len funL (by omega) h.F
  unfold partsR MV.pl
  simp only [Bool.and_eq_true, decide_eq_true_eq, List.length_map, q1, q2, q3, List.all_eq_true, List.forall_mem_map]
  exact ⟨fun ⟨⟨a, b⟩, c, d, e⟩ => ⟨a, b, c, d, e⟩, fun ⟨a, b, c, d, e⟩ => ⟨⟨a, b⟩, c, d, e⟩⟩
theorem formQ_iff (m : MV) (W : World) (h : m.Reads W) : formR m.pl = true ↔ FormQ m := by
  have q4 := rd_len gloL (by omega) h.G
  have q5 := rd_len expL (by omega) h.E
  have q6 := rd_len datL (by omega) h.D
  unfold formR
  rw [Bool.and_eq_true, partsQ_iff m W h]
  unfold MV.pl
  simp only [Bool.and_eq_true, decide_eq_true_eq, List.length_map, q4, q5, q6, List.all_eq_true, List.forall_mem_map]
  exact ⟨fun ⟨p, a, ⟨b, c, d⟩, e, f, g⟩ => ⟨p, a, b, c, d, e, f, g⟩, fun ⟨p, a, b, c, d, e, f, g⟩ => ⟨p, a, ⟨b, c, d⟩, e, f, g⟩⟩
theorem no_of {R : Bool} {Q : Prop} (h : Hid (R = true ↔ Q)) (hn : Q → False) : R = false := by
  cases R with
  | false => rfl
  | true => exact (hn (h.out.1 rfl)).elim
theorem yes_of {R : Bool} {Q : Prop} (h : Hid (R = true ↔ Q)) (hq : Q) : R = true := h.out.2 hq
theorem ok_step {α : Type} {l : List α} {p : α → Bool} {x : α} {k : Nat} (h : ∀ j y, j < k → l[j]? = some y → p y = true) (hx : l[k]? = some x) (hp : p x = true) : ∀ j y, j < k + 1 → l[j]? = some y → p y = true := by
  intro j y hj hy
  by_cases hjk : j < k
  · exact h j y hjk hy
  · obtain rfl : j = k := by omega
    rw [hx] at hy
    injection hy with hy
    rw [← hy]
    exact hp
theorem ok_all {α : Type} {l : List α} {p : α → Bool} {n : Nat} (hl : l.length = n) (h : ∀ j y, j < n → l[j]? = some y → p y = true) : ∀ x ∈ l, p x = true := by
  intro x hx
  obtain ⟨j, hj, hjx⟩ := List.getElem_of_mem hx
  exact h j x (by omega) (by rw [List.getElem?_eq_getElem hj, hjx])
theorem inR_t {lo hi x : Int} (h : lo ≤ x) (h' : x ≤ hi) : inR lo hi x = true := decide_eq_true ⟨h, h'⟩
theorem inR_lo {lo hi x : Int} (h : x < lo) : inR lo hi x = false := decide_eq_false (by omega)
theorem inR_hi {lo hi x : Int} (h : hi < x) : inR lo hi x = false := decide_eq_false (by omega)
theorem in32_wrap (x : Int) : (wrap32 x == x) = inR (-2147483648) 2147483647 x := by
  unfold inR
  by_cases h : -2147483648 ≤ x ∧ x ≤ 2147483647
  · rw [decide_eq_true h, beq_iff_eq]
    exact w32_self h.1 h.2
  · rw [decide_eq_false h, beq_eq_false_iff_ne]
    have := w32_bd x
    omega
end Go.Proofs.YtiinkfejdnfonaaGreatDoor.Mo
