/- The bytes of a module, plain: section by section. No program in sight. -/
import Derived.Test.YtiinkfejdnfonaaGreatDoorFmN
import Derived.Test.YtiinkfejdnfonaaGreatDoorBbL
import Derived.Test.YtiinkfejdnfonaaGreatDoorNameC
namespace Go.Proofs.YtiinkfejdnfonaaGreatDoor.Mb
open Go.RowKit Go.Proofs.YtiinkfejdnfonaaGreatDoor.Num Go.Proofs.YtiinkfejdnfonaaGreatDoor.Mem Go.Proofs.YtiinkfejdnfonaaGreatDoor.Shape Go.Proofs.YtiinkfejdnfonaaGreatDoor.Utf Go.Proofs.YtiinkfejdnfonaaGreatDoor.Ops Go.Proofs.YtiinkfejdnfonaaGreatDoor.Leb Go.Proofs.YtiinkfejdnfonaaGreatDoor.Mo Go.Proofs.YtiinkfejdnfonaaGreatDoor.Bb Go.Proofs.YtiinkfejdnfonaaGreatDoor.NameC
set_option linter.unusedVariables false
def u (x : Int) : List Int := putU 5 (x % 4294967296)
def v7 (x : Int) : List Int := putS 5 (wrap32 x)
def rep (n : Int) : List Int := List.replicate n.toNat 127
def nameB (s : ByteArray) : List Int := putU 5 (s.size : Int) ++ sb s
def kindsB (n : Int) : List Int := u n ++ rep n
def sigB (x : Sig2) : List Int := 96 :: (kindsB x.1 ++ kindsB x.2)
def impB (x : Imp3) : List Int := nameB x.1 ++ (nameB x.2.1 ++ 0 :: u x.2.2)
def fsB (x : Fun3) : List Int := u x.1
def codeB (x : Fun3) : List Int := (if 0 < x.2.1 then 1 :: (u x.2.1 ++ [127]) else [0]) ++ (full x.2.2 ++ [11])
def fnB (x : Fun3) : List Int := u (codeB x).length ++ codeB x
def memB (pg mo : Int) : List Int := if mo < 0 then 0 :: u pg else 1 :: (u pg ++ u mo)
def gloB (x : Glo2) : List Int := 127 :: (if x.1 then 1 else 0) :: 65 :: (v7 x.2 ++ [11])
def expB (x : Exp3) : List Int := nameB x.1 ++ (x.2.1 % 256) :: u x.2.2
def datB (x : Dat2) : List Int := 0 :: 65 :: (v7 x.1 ++ 11 :: (u x.2.length ++ x.2))
def lenB (b : List Int) : List Int := u b.length ++ b
def partsB (n : Nat) (I : List Int) : List Int := u n ++ I
def secB (id : Int) (n : Nat) (I : List Int) : List Int := if n = 0 then [] else id :: lenB (partsB n I)
def headB : List Int := [0, 97, 115, 109, 1, 0, 0, 0]
def modB (M : Md) : List Int :=
  headB ++ (secB 1 M.sigs.length (M.sigs.flatMap sigB) ++ (secB 2 M.imps.length (M.imps.flatMap impB) ++ (secB 3 M.funs.length (M.funs.flatMap fsB) ++ ((if 0 ≤ M.pages then secB 5 1 (memB M.pages M.most) else []) ++
    (secB 6 M.glos.length (M.glos.flatMap gloB) ++ (secB 7 M.exps.length (M.exps.flatMap expB) ++ (secB 10 M.funs.length (M.funs.flatMap fnB) ++ secB 11 M.dats.length (M.dats.flatMap datB))))))))
/-- what ModuleBytes writes -/
def bytesM (M : Md) : List Int := if formR M then modB M else []
section
variable {α : Type} {f : α → List Int} {l : List α} {k n K : Nat} {x : α}
theorem fm_step (h : l[k]? = some x) : (l.take (k + 1)).flatMap f = (l.take k).flatMap f ++ f x := by
  rw [List.take_add_one, h]
  simp
theorem fm_full (h : l.length = n) : (l.take n).flatMap f = l.flatMap f := by rw [List.take_of_length_le (by omega)]
theorem fm_le : ∀ (l : List α) (_ : ∀ x ∈ l, (f x).length ≤ K), (l.flatMap f).length ≤ l.length * K
  | [], _ => by simp
  | x :: l, h => by
    have h1 := h x (by simp)
    have h2 := fm_le l (fun y hy => h y (by simp [hy]))
    simp only [List.flatMap_cons, List.length_append, List.length_cons]
    have h3 : (l.length + 1) * K = l.length * K + K := Nat.succ_mul _ _
    omega
theorem fm_take (h : ∀ x ∈ l, (f x).length ≤ K) (hl : l.length ≤ 60) (hK : K ≤ 17000) : ((l.take k).flatMap f).length ≤ 1020000 := by
  have h1 := fm_le (l.take k) (fun y hy => h y (List.mem_of_mem_take hy))
  have h2 : (l.take k).length * K ≤ 60 * 17000 := Nat.mul_le_mul (by rw [List.length_take]; omega) hK
  omega
end
theorem u_le (x : Int) : (u x).length ≤ 5 := putU_le 5 _
theorem v7_le (x : Int) : (v7 x).length ≤ 5 := putS_le 5 _
theorem rep_len (n : Int) : (rep n).length = n.toNat := by simp [rep]
theorem nameB_len (s : ByteArray) : (nameB s).length = (putU 5 (s.size : Int)).length + s.size := by simp [nameB, sb_len]
theorem nameB_le {s : ByteArray} (h : nameR s = true) : (nameB s).length ≤ 45 := by
  simp only [nameR, Bool.and_eq_true, decide_eq_true_eq] at h
  have := putU_le 5 (s.size : Int)
  rw [nameB_len]
  omega
theorem kindsB_le {n : Int} (h : n ≤ 60) : (kindsB n).length ≤ 65 := by
  have := u_le n
  simp only [kindsB, List.length_append, rep_len]
  omega
theorem sigB_le {x : Sig2} (h : sigR x = true) : (sigB x).length ≤ 17000 := by
  simp only [sigR, inR, Bool.and_eq_true, decide_eq_true_eq] at h
  have h1 := kindsB_le (n := x.1) (by omega)
  have h2 := kindsB_le (n := x.2) (by omega)
  simp only [sigB, List.length_append, List.length_cons]
  omega
theorem impB_le {S : Nat} {x : Imp3} (h : impR S x = true) : (impB x).length ≤ 17000 := by
  simp only [impR, Bool.and_eq_true] at h
  have h1 := nameB_le h.2.1
  have h2 := nameB_le h.2.2
  have h3 := u_le x.2.2
  simp only [impB, List.length_append, List.length_cons]
  omega
theorem fsB_le (x : Fun3) : (fsB x).length ≤ 17000 := Nat.le_trans (u_le _) (by omega)
theorem full_le (l : List Ins3) : (full l).length ≤ 11 * l.length := by
  unfold full
  split
  · exact bodyB_le l
  · simp
theorem codeB_le {x : Fun3} (h : (x.2.2.length : Int) ≤ 1500) : (codeB x).length ≤ 16508 := by
  have h1 := full_le x.2.2
  have h2 := u_le x.2.1
  unfold codeB
  split
  all_goals
    simp only [List.length_append, List.length_cons, List.length_nil]
    omega
theorem fnB_le {S : Nat} {x : Fun3} (h : funR S x = true) : (fnB x).length ≤ 17000 := by
  simp only [funR, bodyR, Bool.and_eq_true, decide_eq_true_eq] at h
  have h1 := codeB_le (x := x) h.2.2.2.1
  have h2 := u_le (codeB x).length
  simp only [fnB, List.length_append]
  omega
theorem memB_le (pg mo : Int) : (memB pg mo).length ≤ 17000 := by
  have h1 := u_le pg
  have h2 := u_le mo
  unfold memB
  split
  all_goals
    simp only [List.length_append, List.length_cons]
    omega
theorem gloB_le (x : Glo2) : (gloB x).length ≤ 17000 := by
  have := v7_le x.2
  simp only [gloB, List.length_append, List.length_cons, List.length_nil]
  omega
theorem expB_le {x : Exp3} (h : expR x = true) : (expB x).length ≤ 17000 := by
  simp only [expR, Bool.and_eq_true] at h
  have h1 := nameB_le h.1
  have h3 := u_le x.2.2
  simp only [expB, List.length_append, List.length_cons]
  omega
theorem datB_le {x : Dat2} (h : datR x = true) : (datB x).length ≤ 17000 := by
  simp only [datR, Bool.and_eq_true, decide_eq_true_eq] at h
  have h1 := v7_le x.1
  have h2 := u_le x.2.length
  simp only [datB, List.length_append, List.length_cons]
  omega
theorem secB_le {id : Int} {n : Nat} {I : List Int} (h : I.length ≤ 1020000) : (secB id n I).length ≤ 1020011 := by
  unfold secB
  split
  · simp
  · have h1 := u_le n
    have h2 := u_le ((partsB n I).length : Int)
    simp only [lenB, partsB, List.length_cons, List.length_append] at h2 ⊢
    omega
theorem secB_0 (id : Int) (I : List Int) : secB id 0 I = [] := rfl
theorem secB_s {id : Int} {n : Nat} {I : List Int} (h : 0 < n) : secB id n I = id :: (u (u n ++ I).length ++ (u n ++ I)) := by
  unfold secB
  rw [if_neg (by omega)]
  rfl
theorem u_1 : u 1 = [1] := by decide
/-- the memory's section, as the program lays it: the number of memories is a byte of its own -/
theorem mem_sec (pg mo : Int) : secB 5 1 (memB pg mo) = 5 :: (u ((1 : Int) :: memB pg mo).length ++ (1 : Int) :: memB pg mo) := by
  rw [secB_s (by omega)]
  have : u ((1 : Nat) : Int) = [1] := u_1
  rw [this]
  rfl
theorem bytesM_le (m : MV) (W : World) (h : m.Reads W) : (bytesM m.pl).length ≤ 10000000 := by
  unfold bytesM
  split
  · rename_i hf
    have hq := (formQ_iff m W h).1 hf
    have q1 := rd_len sigL (by omega) h.S
    have q2 := rd_len impL (by omega) h.I
    have q3 := rd_len funL (by omega) h.F
    have q4 := rd_len gloL (by omega) h.G
    have q5 := rd_len expL (by omega) h.E
    have q6 := rd_len datL (by omega) h.D
    have a1 := hq.P.a1
    have a2 := hq.P.a2
    have a3 := hq.a3
    have a4 := hq.a4
    have a5 := hq.a5
    have tk {α : Type} {f : α → List Int} {l : List α} (h : ∀ x ∈ l, (f x).length ≤ 17000) (hl : l.length ≤ 60) : (l.flatMap f).length ≤ 1020000 := by
      have := fm_take (k := l.length) h hl (Nat.le_refl _)
      rwa [fm_full rfl] at this
    have hfm : ∀ x ∈ m.funs.map FV.pl, funR m.sh.2.1 x = true := by
      intro x hx
      obtain ⟨y, hy, rfl⟩ := List.mem_map.1 hx
      exact hq.P.fu y hy
    have hdm : ∀ x ∈ m.dats.map DV.pl, datR x = true := by
      intro x hx
      obtain ⟨y, hy, rfl⟩ := List.mem_map.1 hx
      exact hq.da y hy
    have s1 := secB_le (id := 1) (n := m.sigs.length) (tk (f := sigB) (l := m.sigs) (fun x hx => sigB_le (hq.P.sg x hx)) (by omega))
    have s2 := secB_le (id := 2) (n := m.imps.length) (tk (f := impB) (l := m.imps) (fun x hx => impB_le (hq.P.im x hx)) (by omega))
    have s3 := secB_le (id := 3) (n := (m.funs.map FV.pl).length) (tk (f := fsB) (l := m.funs.map FV.pl) (fun x hx => fsB_le x) (by rw [List.length_map]; omega))
    have s5 := secB_le (id := 5) (n := 1) (I := memB m.pages m.most) (Nat.le_trans (memB_le _ _) (by omega))
    have s6 := secB_le (id := 6) (n := m.glos.length) (tk (f := gloB) (l := m.glos) (fun x hx => gloB_le x) (by omega))
    have s7 := secB_le (id := 7) (n := m.exps.length) (tk (f := expB) (l := m.exps) (fun x hx => expB_le (hq.ex x hx)) (by omega))
    have s8 := secB_le (id := 10) (n := (m.funs.map FV.pl).length) (tk (f := fnB) (l := m.funs.map FV.pl) (fun x hx => fnB_le (hfm x hx)) (by rw [List.length_map]; omega))
    have s9 := secB_le (id := 11) (n := (m.dats.map DV.pl).length) (tk (f := datB) (l := m.dats.map DV.pl) (fun x hx => datB_le (hdm x hx)) (by rw [List.length_map]; omega))
    show (modB ⟨m.sigs, m.imps, m.funs.map FV.pl, m.pages, m.most, m.glos, m.exps, m.dats.map DV.pl⟩).length ≤ 10000000
    unfold modB
    simp only [List.length_append]
    have s5' : (if 0 ≤ m.pages then secB 5 1 (memB m.pages m.most) else []).length ≤ 1020011 := by split <;> simp [s5]
    have sh : headB.length = 8 := rfl
    omega
  · simp
end Go.Proofs.YtiinkfejdnfonaaGreatDoor.Mb
