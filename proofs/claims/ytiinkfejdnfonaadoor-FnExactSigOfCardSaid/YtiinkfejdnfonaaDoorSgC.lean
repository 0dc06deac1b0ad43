/- The signature of a function of a module, in the program and in the reference: a contract each. -/
import Derived.Test.YtiinkfejdnfonaaDoorFmI
import Derived.Test.YtiinkfejdnfonaaDoorFmS
import Derived.StillTailTactics
namespace Go.Proofs.YtiinkfejdnfonaaDoor.Mo
open Go.RowKit Go.Proofs.YtiinkfejdnfonaaDoor.Num Go.Proofs.YtiinkfejdnfonaaDoor.NumC Go.Proofs.YtiinkfejdnfonaaDoor.Mem Go.Proofs.YtiinkfejdnfonaaDoor.Shape Go.Proofs.YtiinkfejdnfonaaDoor.Utf Go.Proofs.YtiinkfejdnfonaaDoor.Ops Go.Proofs.YtiinkfejdnfonaaDoor.Body
set_option linter.unusedVariables false
def sigP (M : Md) (i : Int) : Int × Int × Bool :=
  if 0 ≤ i ∧ i < M.imps.length then
    let x := M.sigs.getD (M.imps.getD i.toNat (⟨#[]⟩, ⟨#[]⟩, 0)).2.2.toNat (0, 0)
    (x.1, x.2, true)
  else if M.imps.length ≤ i ∧ i < (M.imps.length : Int) + M.funs.length then
    let x := M.sigs.getD (M.funs.getD (i - M.imps.length).toNat (0, 0, [])).1.toNat (0, 0)
    (x.1, x.2, true)
  else (0, 0, false)
def sigQ (M : Md) (i : Int) : Int × Int × Bool := if formR M then sigP M i else (0, 0, false)
theorem getD_at {α : Type} {l : List α} {k : Nat} {x d : α} (h : l[k]? = some x) : l.getD k d = x := by simp [List.getD, h]
theorem sigP_imp {M : Md} {k j : Nat} {a c : ByteArray} {p r : Int} (hk : (k : Int) < M.imps.length) (h1 : M.imps[k]? = some (a, c, (j : Int))) (h2 : M.sigs[j]? = some (p, r)) : sigP M k = (p, r, true) := by
  unfold sigP
  rw [if_pos ⟨by omega, hk⟩]
  simp only [Int.toNat_natCast, getD_at h1, getD_at h2]
theorem sigP_fun {M : Md} {k j : Nat} {i : Int} {lo : Int} {b : List Ins3} {p r : Int} (hi : i = (M.imps.length : Int) + k) (hk : (k : Int) < M.funs.length) (h1 : M.funs[k]? = some ((j : Int), lo, b)) (h2 : M.sigs[j]? = some (p, r)) : sigP M i = (p, r, true) := by
  unfold sigP
  rw [if_neg (by omega), if_pos ⟨by omega, by omega⟩]
  have e : (i - (M.imps.length : Int)).toNat = k := by omega
  simp only [e, getD_at h1, Int.toNat_natCast, getD_at h2]
theorem sigP_no {M : Md} {i : Int} (h : i < 0 ∨ (M.imps.length : Int) + M.funs.length ≤ i) : sigP M i = (0, 0, false) := by
  unfold sigP
  rw [if_neg (by omega), if_neg (by omega)]
/-- what SigOf hands back -/
def SigR (x : Int × Int × Bool) (w : World) (e : Ending) (w' : World) : Prop := e = .returned (.tuple #[.agg #[.int .i64 x.1, .int .i64 x.2.1], .bool x.2.2]) ∧ Below w.heap.size w w'
set_option maxRecDepth 100000 in
set_option maxHeartbeats 4000000 in
theorem sSigA (m : MV) (i : Int) (w : World) (hR : m.Reads w) (hQ : FormQ m) (h63 : -9223372036854775808 ≤ i ∧ i ≤ 9223372036854775807) :
    Calls Tryd.prog 64 #[m.v, .int .i64 i] w (SigR (sigP m.pl i) w) := by
  have q1 := rd_len sigL (by omega) hR.S
  have q2 := rd_len impL (by omega) hR.I
  have q3 := rd_len funL (by omega) hR.F
  have n1 : m.pl.sigs.length = m.sh.2.1 := q1
  have n2 : m.pl.imps.length = m.ih.2.1 := q2
  have n3 : m.pl.funs.length = m.fh.2.1 := by show (m.funs.map FV.pl).length = _; rw [List.length_map]; exact q3
  have hIm := hQ.P.im
  have hFu := hQ.P.fu
  have a1 := hQ.P.a1
  have a2 := hQ.P.a2
  have hc : (0 ≤ i ∧ i < (m.ih.2.1 : Int)) ∨ ((m.ih.2.1 : Int) ≤ i ∧ i < (m.ih.2.1 : Int) + m.fh.2.1) ∨ (i < 0 ∨ (m.ih.2.1 : Int) + m.fh.2.1 ≤ i) := by omega
  have HR := hide hR
  obtain ⟨X, hX⟩ : ∃ X, sigP m.pl i = X := ⟨_, rfl⟩
  rw [hX]
  have HXX := hide hX
  have N2 := hide n2
  have N3 := hide n3
  have QS := hide q1
  have Q2 := hide q2
  have Q3 := hide q3
  have HIm := hide hIm
  have HFu := hide hFu
  have hPI : m.pl.imps = m.imps := rfl
  have hPS : m.pl.sigs = m.sigs := rfl
  have hPF : m.pl.funs = m.funs.map FV.pl := rfl
  have HPI := hide hPI
  have HPS := hide hPS
  have HPF := hide hPF
  obtain ⟨M, hM⟩ : ∃ M, m.pl = M := ⟨_, rfl⟩
  rw [hM] at HXX N2 N3 HPI HPS HPF
  clear hX n1 n2 n3 q1 q2 q3 hIm hFu hPI hPS hPF hM hQ hR
  obtain ⟨⟨S, Sn, Sc⟩, ⟨I, In, Ic⟩, ⟨F, Fn, Fc⟩, pg, mo, ⟨G, Gn, Gc⟩, ⟨E, En, Ec⟩, ⟨D, Dn, Dc⟩, sigs, imps, funs, glos, exps, dats⟩ := m
  simp only [] at hc a1 a2
  change Calls Tryd.prog 64 #[.agg #[.slice S Sn Sc, .slice I In Ic, .slice F Fn Fc, .int .i64 pg, .int .i64 mo, .slice G Gn Gc, .slice E En Ec, .slice D Dn Dc], .int .i64 i] w _
  rcases hc with ⟨hi0, hi1⟩ | ⟨hi0, hi1⟩ | hno
  · skip
    have B0 : Below w.heap.size w ((w.alloc (.cells #[.slice S Sn Sc, .slice I In Ic, .slice F Fn Fc, .int .i64 pg, .int .i64 mo, .slice G Gn Gc, .slice E En Ec, .slice D Dn Dc] 50)).alloc (.cells #[.int .i64 0, .int .i64 0] 55)) := by
      repeat (first | exact Below.refl _ _ | refine bel_drewN ?_ _ | refine Below.setCell ?_ (by simp <;> omega) _ | refine Below.alloc ?_ (by simp <;> omega) _)
    have K0 : Blk ((w.alloc (.cells #[.slice S Sn Sc, .slice I In Ic, .slice F Fn Fc, .int .i64 pg, .int .i64 mo, .slice G Gn Gc, .slice E En Ec, .slice D Dn Dc] 50)).alloc (.cells #[.int .i64 0, .int .i64 0] 55)) w.heap.size #[.slice S Sn Sc, .slice I In Ic, .slice F Fn Fc, .int .i64 pg, .int .i64 mo, .slice G Gn Gc, .slice E En Ec, .slice D Dn Dc] 50 := (Blk.new w #[.slice S Sn Sc, .slice I In Ic, .slice F Fn Fc, .int .i64 pg, .int .i64 mo, .slice G Gn Gc, .slice E En Ec, .slice D Dn Dc] 50).alloc _
    have K1 : Blk ((w.alloc (.cells #[.slice S Sn Sc, .slice I In Ic, .slice F Fn Fc, .int .i64 pg, .int .i64 mo, .slice G Gn Gc, .slice E En Ec, .slice D Dn Dc] 50)).alloc (.cells #[.int .i64 0, .int .i64 0] 55)) (w.heap.size + 1) #[.int .i64 0, .int .i64 0] 55 := by
      have h := Blk.new (w.alloc (.cells #[.slice S Sn Sc, .slice I In Ic, .slice F Fn Fc, .int .i64 pg, .int .i64 mo, .slice G Gn Gc, .slice E En Ec, .slice D Dn Dc] 50)) #[.int .i64 0, .int .i64 0] 55
      simpa using h
    have HB0 := hide B0
    have HK0 := hide K0
    have HK1 := hide K1
    clear B0 K0 K1
    obtain ⟨k, rfl⟩ : ∃ k : Nat, i = k := ⟨i.toNat, by omega⟩
    obtain ⟨b, off, x, hA, hx, hbg, hcell⟩ := rd_get (wr := ((w.alloc (.cells #[.slice S Sn Sc, .slice I In Ic, .slice F Fn Fc, .int .i64 pg, .int .i64 mo, .slice G Gn Gc, .slice E En Ec, .slice D Dn Dc] 50)).alloc (.cells #[.int .i64 0, .int .i64 0] 55))) impL (by omega) HR.out.I k (by show k < In; omega) (fun p hp => HB0.out.cell hp)
    have hk1 : (k : Int) < In := hi1
    have hk0 : (0 : Int) ≤ k := by omega
    have hok := HIm.out x (List.mem_of_getElem? hx)
    obtain ⟨a, c, sg⟩ := x
    have hsg : 0 ≤ sg ∧ sg ≤ (Sn : Int) - 1 := by
      simp only [impR, Bool.and_eq_true] at hok
      exact of_decide_eq_true hok.1
    obtain ⟨j, rfl⟩ : ∃ j : Nat, sg = j := ⟨sg.toNat, by omega⟩
    obtain ⟨b', off', y, hB, hy, hbg', hcell'⟩ := rd_get (wr := ((w.alloc (.cells #[.slice S Sn Sc, .slice I In Ic, .slice F Fn Fc, .int .i64 pg, .int .i64 mo, .slice G Gn Gc, .slice E En Ec, .slice D Dn Dc] 50)).alloc (.cells #[.int .i64 0, .int .i64 0] 55))) sigL (by omega) HR.out.S j (by show j < Sn; omega) (fun p hp => HB0.out.cell hp)
    obtain ⟨pp, rr⟩ := y
    have hv : X = (pp, rr, true) := by
      rw [← HXX.out]
      exact sigP_imp (a := a) (c := c) (j := j) (by rw [N2.out]; exact hk1) (by rw [HPI.out]; exact hx) (by rw [HPS.out]; exact hy)
    subst hv
    have hj1 : (j : Int) < Sn := by omega
    have hj0 : (0 : Int) ≤ j := by omega
    have hc0 : ((w.alloc (.cells #[.slice S Sn Sc, .slice I In Ic, .slice F Fn Fc, .int .i64 pg, .int .i64 mo, .slice G Gn Gc, .slice E En Ec, .slice D Dn Dc] 50)).alloc (.cells #[.int .i64 0, .int .i64 0] 55)).cell? ⟨b, off + k * 3 + 2, none⟩ = some (.int .i64 (j : Int)) := hcell 2 _ rfl
    have hd0 : ((w.alloc (.cells #[.slice S Sn Sc, .slice I In Ic, .slice F Fn Fc, .int .i64 pg, .int .i64 mo, .slice G Gn Gc, .slice E En Ec, .slice D Dn Dc] 50)).alloc (.cells #[.int .i64 0, .int .i64 0] 55)).cell? ⟨b', off' + j * 2, none⟩ = some (.int .i64 pp) := hcell' 0 _ rfl
    have hd1 : ((w.alloc (.cells #[.slice S Sn Sc, .slice I In Ic, .slice F Fn Fc, .int .i64 pg, .int .i64 mo, .slice G Gn Gc, .slice E En Ec, .slice D Dn Dc] 50)).alloc (.cells #[.int .i64 0, .int .i64 0] 55)).cell? ⟨b', off' + j * 2 + 1, none⟩ = some (.int .i64 rr) := hcell' 1 _ rfl
    have z0 : ((w.alloc (.cells #[.slice S Sn Sc, .slice I In Ic, .slice F Fn Fc, .int .i64 pg, .int .i64 mo, .slice G Gn Gc, .slice E En Ec, .slice D Dn Dc] 50)).alloc (.cells #[.int .i64 0, .int .i64 0] 55)).cell? ⟨w.heap.size + 1, 0, none⟩ = some (.int .i64 0) := HK1.out.cell 0
    have z1 : ((w.alloc (.cells #[.slice S Sn Sc, .slice I In Ic, .slice F Fn Fc, .int .i64 pg, .int .i64 mo, .slice G Gn Gc, .slice E En Ec, .slice D Dn Dc] 50)).alloc (.cells #[.int .i64 0, .int .i64 0] 55)).cell? ⟨w.heap.size + 1, 1, none⟩ = some (.int .i64 0) := HK1.out.cell 1
    have zf : ∀ j, ((w.alloc (.cells #[.slice S Sn Sc, .slice I In Ic, .slice F Fn Fc, .int .i64 pg, .int .i64 mo, .slice G Gn Gc, .slice E En Ec, .slice D Dn Dc] 50)).alloc (.cells #[.int .i64 0, .int .i64 0] 55)).frozen? ⟨w.heap.size + 1, j, none⟩ = false := fun j => HK1.out.frozen j
    have p0 : ((w.alloc (.cells #[.slice S Sn Sc, .slice I In Ic, .slice F Fn Fc, .int .i64 pg, .int .i64 mo, .slice G Gn Gc, .slice E En Ec, .slice D Dn Dc] 50)).alloc (.cells #[.int .i64 0, .int .i64 0] 55)).cell? ⟨w.heap.size, 0, none⟩ = some (.slice S Sn Sc) := HK0.out.cell 0
    have p1 : ((w.alloc (.cells #[.slice S Sn Sc, .slice I In Ic, .slice F Fn Fc, .int .i64 pg, .int .i64 mo, .slice G Gn Gc, .slice E En Ec, .slice D Dn Dc] 50)).alloc (.cells #[.int .i64 0, .int .i64 0] 55)).cell? ⟨w.heap.size, 1, none⟩ = some (.slice I In Ic) := HK0.out.cell 1
    subst hA
    subst hB
    clear hcell hcell' hx hy hok
    go_enter Tryd.func64, Tryd.ntmps64
    go_upto_region 5 with fail
    generalize ((w.alloc (.cells #[.slice (some ⟨b', off', none⟩) Sn Sc, .slice (some ⟨b, off, none⟩) In Ic, .slice F Fn Fc, .int .i64 pg, .int .i64 mo, .slice G Gn Gc, .slice E En Ec, .slice D Dn Dc] 50)).alloc (.cells #[.int .i64 0, .int .i64 0] 55)) = V0 at HB0 HK0 HK1 hc0 hd0 hd1 z0 z1 zf p0 p1 ⊢
    go_still_tail 10, (by kernel_rfl)
    go_wp2_with fail
    refine bodyPost_ret (v := .tuple #[.agg #[.int .i64 pp, .int .i64 rr], .bool true]) (by simp [results, Tryd.results64, go_sem, z0, z1]) rfl ⟨rfl, ?_⟩
    refine bel_drewN ?_ 1
    repeat refine Below.setCell ?_ (by simp <;> omega) _
    exact HB0.out
  · skip
    have B0 : Below w.heap.size w ((w.alloc (.cells #[.slice S Sn Sc, .slice I In Ic, .slice F Fn Fc, .int .i64 pg, .int .i64 mo, .slice G Gn Gc, .slice E En Ec, .slice D Dn Dc] 50)).alloc (.cells #[.int .i64 0, .int .i64 0] 55)) := by
      repeat (first | exact Below.refl _ _ | refine bel_drewN ?_ _ | refine Below.setCell ?_ (by simp <;> omega) _ | refine Below.alloc ?_ (by simp <;> omega) _)
    have K0 : Blk ((w.alloc (.cells #[.slice S Sn Sc, .slice I In Ic, .slice F Fn Fc, .int .i64 pg, .int .i64 mo, .slice G Gn Gc, .slice E En Ec, .slice D Dn Dc] 50)).alloc (.cells #[.int .i64 0, .int .i64 0] 55)) w.heap.size #[.slice S Sn Sc, .slice I In Ic, .slice F Fn Fc, .int .i64 pg, .int .i64 mo, .slice G Gn Gc, .slice E En Ec, .slice D Dn Dc] 50 := (Blk.new w #[.slice S Sn Sc, .slice I In Ic, .slice F Fn Fc, .int .i64 pg, .int .i64 mo, .slice G Gn Gc, .slice E En Ec, .slice D Dn Dc] 50).alloc _
    have K1 : Blk ((w.alloc (.cells #[.slice S Sn Sc, .slice I In Ic, .slice F Fn Fc, .int .i64 pg, .int .i64 mo, .slice G Gn Gc, .slice E En Ec, .slice D Dn Dc] 50)).alloc (.cells #[.int .i64 0, .int .i64 0] 55)) (w.heap.size + 1) #[.int .i64 0, .int .i64 0] 55 := by
      have h := Blk.new (w.alloc (.cells #[.slice S Sn Sc, .slice I In Ic, .slice F Fn Fc, .int .i64 pg, .int .i64 mo, .slice G Gn Gc, .slice E En Ec, .slice D Dn Dc] 50)) #[.int .i64 0, .int .i64 0] 55
      simpa using h
    have HB0 := hide B0
    have HK0 := hide K0
    have HK1 := hide K1
    clear B0 K0 K1
    obtain ⟨k, hik⟩ : ∃ k : Nat, i = (In : Int) + k := ⟨(i - In).toNat, by omega⟩
    obtain ⟨b, off, x, hA, hx, hbg, hcell⟩ := rd_get (wr := ((w.alloc (.cells #[.slice S Sn Sc, .slice I In Ic, .slice F Fn Fc, .int .i64 pg, .int .i64 mo, .slice G Gn Gc, .slice E En Ec, .slice D Dn Dc] 50)).alloc (.cells #[.int .i64 0, .int .i64 0] 55))) funL (by omega) HR.out.F k (by show k < Fn; omega) (fun p hp => HB0.out.cell hp)
    have hk1 : (k : Int) < Fn := by omega
    have hk0 : (0 : Int) ≤ k := by omega
    have hok := HFu.out x (List.mem_of_getElem? hx)
    obtain ⟨sg, lo, ⟨A2, n2, c2⟩, bd⟩ := x
    have hsg : 0 ≤ sg ∧ sg ≤ (Sn : Int) - 1 := by
      simp only [funR, FV.pl, Bool.and_eq_true] at hok
      exact of_decide_eq_true hok.1
    obtain ⟨j, rfl⟩ : ∃ j : Nat, sg = j := ⟨sg.toNat, by omega⟩
    obtain ⟨b', off', y, hB, hy, hbg', hcell'⟩ := rd_get (wr := ((w.alloc (.cells #[.slice S Sn Sc, .slice I In Ic, .slice F Fn Fc, .int .i64 pg, .int .i64 mo, .slice G Gn Gc, .slice E En Ec, .slice D Dn Dc] 50)).alloc (.cells #[.int .i64 0, .int .i64 0] 55))) sigL (by omega) HR.out.S j (by show j < Sn; omega) (fun p hp => HB0.out.cell hp)
    obtain ⟨pp, rr⟩ := y
    have hv : X = (pp, rr, true) := by
      rw [← HXX.out]
      exact sigP_fun (k := k) (j := j) (lo := lo) (b := bd) (by rw [N2.out]; exact hik) (by rw [N3.out]; exact hk1) (by rw [HPF.out, List.getElem?_map, hx]; rfl) (by rw [HPS.out]; exact hy)
    subst hv
    have hj1 : (j : Int) < Sn := by omega
    have hj0 : (0 : Int) ≤ j := by omega
    have hc0 : ((w.alloc (.cells #[.slice S Sn Sc, .slice I In Ic, .slice F Fn Fc, .int .i64 pg, .int .i64 mo, .slice G Gn Gc, .slice E En Ec, .slice D Dn Dc] 50)).alloc (.cells #[.int .i64 0, .int .i64 0] 55)).cell? ⟨b, off + k * 3, none⟩ = some (.int .i64 (j : Int)) := hcell 0 _ rfl
    have hd0 : ((w.alloc (.cells #[.slice S Sn Sc, .slice I In Ic, .slice F Fn Fc, .int .i64 pg, .int .i64 mo, .slice G Gn Gc, .slice E En Ec, .slice D Dn Dc] 50)).alloc (.cells #[.int .i64 0, .int .i64 0] 55)).cell? ⟨b', off' + j * 2, none⟩ = some (.int .i64 pp) := hcell' 0 _ rfl
    have hd1 : ((w.alloc (.cells #[.slice S Sn Sc, .slice I In Ic, .slice F Fn Fc, .int .i64 pg, .int .i64 mo, .slice G Gn Gc, .slice E En Ec, .slice D Dn Dc] 50)).alloc (.cells #[.int .i64 0, .int .i64 0] 55)).cell? ⟨b', off' + j * 2 + 1, none⟩ = some (.int .i64 rr) := hcell' 1 _ rfl
    have z0 : ((w.alloc (.cells #[.slice S Sn Sc, .slice I In Ic, .slice F Fn Fc, .int .i64 pg, .int .i64 mo, .slice G Gn Gc, .slice E En Ec, .slice D Dn Dc] 50)).alloc (.cells #[.int .i64 0, .int .i64 0] 55)).cell? ⟨w.heap.size + 1, 0, none⟩ = some (.int .i64 0) := HK1.out.cell 0
    have z1 : ((w.alloc (.cells #[.slice S Sn Sc, .slice I In Ic, .slice F Fn Fc, .int .i64 pg, .int .i64 mo, .slice G Gn Gc, .slice E En Ec, .slice D Dn Dc] 50)).alloc (.cells #[.int .i64 0, .int .i64 0] 55)).cell? ⟨w.heap.size + 1, 1, none⟩ = some (.int .i64 0) := HK1.out.cell 1
    have zf : ∀ j, ((w.alloc (.cells #[.slice S Sn Sc, .slice I In Ic, .slice F Fn Fc, .int .i64 pg, .int .i64 mo, .slice G Gn Gc, .slice E En Ec, .slice D Dn Dc] 50)).alloc (.cells #[.int .i64 0, .int .i64 0] 55)).frozen? ⟨w.heap.size + 1, j, none⟩ = false := fun j => HK1.out.frozen j
    have p0 : ((w.alloc (.cells #[.slice S Sn Sc, .slice I In Ic, .slice F Fn Fc, .int .i64 pg, .int .i64 mo, .slice G Gn Gc, .slice E En Ec, .slice D Dn Dc] 50)).alloc (.cells #[.int .i64 0, .int .i64 0] 55)).cell? ⟨w.heap.size, 0, none⟩ = some (.slice S Sn Sc) := HK0.out.cell 0
    have p1 : ((w.alloc (.cells #[.slice S Sn Sc, .slice I In Ic, .slice F Fn Fc, .int .i64 pg, .int .i64 mo, .slice G Gn Gc, .slice E En Ec, .slice D Dn Dc] 50)).alloc (.cells #[.int .i64 0, .int .i64 0] 55)).cell? ⟨w.heap.size, 1, none⟩ = some (.slice I In Ic) := HK0.out.cell 1
    have p2 : ((w.alloc (.cells #[.slice S Sn Sc, .slice I In Ic, .slice F Fn Fc, .int .i64 pg, .int .i64 mo, .slice G Gn Gc, .slice E En Ec, .slice D Dn Dc] 50)).alloc (.cells #[.int .i64 0, .int .i64 0] 55)).cell? ⟨w.heap.size, 2, none⟩ = some (.slice F Fn Fc) := HK0.out.cell 2
    have hge : (In : Int) ≤ i := hi0
    have hwk : IntKind.i64.wrap (k : Int) = k := by rw [IntKind.wrap_i64]; omega
    have hsub2 : i - (In : Int) = k := by omega
    have hnl : ¬ (i < (In : Int)) := by omega
    subst hA
    subst hB
    clear hcell hcell' hx hy hok hik
    go_enter Tryd.func64, Tryd.ntmps64
    go_upto_region 6 with fail
    generalize ((w.alloc (.cells #[.slice (some ⟨b', off', none⟩) Sn Sc, .slice I In Ic, .slice (some ⟨b, off, none⟩) Fn Fc, .int .i64 pg, .int .i64 mo, .slice G Gn Gc, .slice E En Ec, .slice D Dn Dc] 50)).alloc (.cells #[.int .i64 0, .int .i64 0] 55)) = V0 at HB0 HK0 HK1 hc0 hd0 hd1 z0 z1 zf p0 p1 p2 ⊢
    go_still_tail 12, (by kernel_rfl)
    go_wp2_with fail
    refine bodyPost_ret (v := .tuple #[.agg #[.int .i64 pp, .int .i64 rr], .bool true]) (by simp [results, Tryd.results64, go_sem, z0, z1]) rfl ⟨rfl, ?_⟩
    refine bel_drewN ?_ 1
    repeat refine Below.setCell ?_ (by simp <;> omega) _
    exact HB0.out
  · skip
    have B0 : Below w.heap.size w ((w.alloc (.cells #[.slice S Sn Sc, .slice I In Ic, .slice F Fn Fc, .int .i64 pg, .int .i64 mo, .slice G Gn Gc, .slice E En Ec, .slice D Dn Dc] 50)).alloc (.cells #[.int .i64 0, .int .i64 0] 55)) := by
      repeat (first | exact Below.refl _ _ | refine bel_drewN ?_ _ | refine Below.setCell ?_ (by simp <;> omega) _ | refine Below.alloc ?_ (by simp <;> omega) _)
    have K0 : Blk ((w.alloc (.cells #[.slice S Sn Sc, .slice I In Ic, .slice F Fn Fc, .int .i64 pg, .int .i64 mo, .slice G Gn Gc, .slice E En Ec, .slice D Dn Dc] 50)).alloc (.cells #[.int .i64 0, .int .i64 0] 55)) w.heap.size #[.slice S Sn Sc, .slice I In Ic, .slice F Fn Fc, .int .i64 pg, .int .i64 mo, .slice G Gn Gc, .slice E En Ec, .slice D Dn Dc] 50 := (Blk.new w #[.slice S Sn Sc, .slice I In Ic, .slice F Fn Fc, .int .i64 pg, .int .i64 mo, .slice G Gn Gc, .slice E En Ec, .slice D Dn Dc] 50).alloc _
    have K1 : Blk ((w.alloc (.cells #[.slice S Sn Sc, .slice I In Ic, .slice F Fn Fc, .int .i64 pg, .int .i64 mo, .slice G Gn Gc, .slice E En Ec, .slice D Dn Dc] 50)).alloc (.cells #[.int .i64 0, .int .i64 0] 55)) (w.heap.size + 1) #[.int .i64 0, .int .i64 0] 55 := by
      have h := Blk.new (w.alloc (.cells #[.slice S Sn Sc, .slice I In Ic, .slice F Fn Fc, .int .i64 pg, .int .i64 mo, .slice G Gn Gc, .slice E En Ec, .slice D Dn Dc] 50)) #[.int .i64 0, .int .i64 0] 55
      simpa using h
    have HB0 := hide B0
    have HK0 := hide K0
    have HK1 := hide K1
    clear B0 K0 K1
    have hv : X = (0, 0, false) := by
      rw [← HXX.out]
      exact sigP_no (by rw [N2.out, N3.out]; exact hno)
    subst hv
    have z0 : ((w.alloc (.cells #[.slice S Sn Sc, .slice I In Ic, .slice F Fn Fc, .int .i64 pg, .int .i64 mo, .slice G Gn Gc, .slice E En Ec, .slice D Dn Dc] 50)).alloc (.cells #[.int .i64 0, .int .i64 0] 55)).cell? ⟨w.heap.size + 1, 0, none⟩ = some (.int .i64 0) := HK1.out.cell 0
    have z1 : ((w.alloc (.cells #[.slice S Sn Sc, .slice I In Ic, .slice F Fn Fc, .int .i64 pg, .int .i64 mo, .slice G Gn Gc, .slice E En Ec, .slice D Dn Dc] 50)).alloc (.cells #[.int .i64 0, .int .i64 0] 55)).cell? ⟨w.heap.size + 1, 1, none⟩ = some (.int .i64 0) := HK1.out.cell 1
    have zf : ∀ j, ((w.alloc (.cells #[.slice S Sn Sc, .slice I In Ic, .slice F Fn Fc, .int .i64 pg, .int .i64 mo, .slice G Gn Gc, .slice E En Ec, .slice D Dn Dc] 50)).alloc (.cells #[.int .i64 0, .int .i64 0] 55)).frozen? ⟨w.heap.size + 1, j, none⟩ = false := fun j => HK1.out.frozen j
    have p0 : ((w.alloc (.cells #[.slice S Sn Sc, .slice I In Ic, .slice F Fn Fc, .int .i64 pg, .int .i64 mo, .slice G Gn Gc, .slice E En Ec, .slice D Dn Dc] 50)).alloc (.cells #[.int .i64 0, .int .i64 0] 55)).cell? ⟨w.heap.size, 0, none⟩ = some (.slice S Sn Sc) := HK0.out.cell 0
    have p1 : ((w.alloc (.cells #[.slice S Sn Sc, .slice I In Ic, .slice F Fn Fc, .int .i64 pg, .int .i64 mo, .slice G Gn Gc, .slice E En Ec, .slice D Dn Dc] 50)).alloc (.cells #[.int .i64 0, .int .i64 0] 55)).cell? ⟨w.heap.size, 1, none⟩ = some (.slice I In Ic) := HK0.out.cell 1
    have p2 : ((w.alloc (.cells #[.slice S Sn Sc, .slice I In Ic, .slice F Fn Fc, .int .i64 pg, .int .i64 mo, .slice G Gn Gc, .slice E En Ec, .slice D Dn Dc] 50)).alloc (.cells #[.int .i64 0, .int .i64 0] 55)).cell? ⟨w.heap.size, 2, none⟩ = some (.slice F Fn Fc) := HK0.out.cell 2
    by_cases hlt : i < 0
    · skip
      go_enter Tryd.func64, Tryd.ntmps64
      go_wp2_with fail
      refine bodyPost_ret (v := .tuple #[.agg #[.int .i64 0, .int .i64 0], .bool false]) (by simp [results, Tryd.results64, go_sem, z0, z1]) rfl ⟨rfl, ?_⟩
      repeat refine Below.setCell ?_ (by simp <;> omega) _
      exact HB0.out
    · have hge : 0 ≤ i := by omega
      have hge2 : (In : Int) + Fn ≤ i := by omega
      clear hlt hno
      go_enter Tryd.func64, Tryd.ntmps64
      go_wp2_with fail
      refine bodyPost_ret (v := .tuple #[.agg #[.int .i64 0, .int .i64 0], .bool false]) (by simp [results, Tryd.results64, go_sem, z0, z1]) rfl ⟨rfl, ?_⟩
      repeat refine Below.setCell ?_ (by simp <;> omega) _
      exact HB0.out
set_option maxRecDepth 100000 in
set_option maxHeartbeats 4000000 in
theorem iSigA (m : MV) (i : Int) (w : World) (hR : m.Reads w) (hQ : FormQ m) (h63 : -9223372036854775808 ≤ i ∧ i ≤ 9223372036854775807) :
    Calls Tryd.prog 65 #[m.v, .int .i64 i] w (SigR (sigP m.pl i) w) := by
  have q1 := rd_len sigL (by omega) hR.S
  have q2 := rd_len impL (by omega) hR.I
  have q3 := rd_len funL (by omega) hR.F
  have n1 : m.pl.sigs.length = m.sh.2.1 := q1
  have n2 : m.pl.imps.length = m.ih.2.1 := q2
  have n3 : m.pl.funs.length = m.fh.2.1 := by show (m.funs.map FV.pl).length = _; rw [List.length_map]; exact q3
  have hIm := hQ.P.im
  have hFu := hQ.P.fu
  have a1 := hQ.P.a1
  have a2 := hQ.P.a2
  have hc : (0 ≤ i ∧ i < (m.ih.2.1 : Int)) ∨ ((m.ih.2.1 : Int) ≤ i ∧ i < (m.ih.2.1 : Int) + m.fh.2.1) ∨ (i < 0 ∨ (m.ih.2.1 : Int) + m.fh.2.1 ≤ i) := by omega
  have HR := hide hR
  obtain ⟨X, hX⟩ : ∃ X, sigP m.pl i = X := ⟨_, rfl⟩
  rw [hX]
  have HXX := hide hX
  have N2 := hide n2
  have N3 := hide n3
  have QS := hide q1
  have Q2 := hide q2
  have Q3 := hide q3
  have HIm := hide hIm
  have HFu := hide hFu
  have hPI : m.pl.imps = m.imps := rfl
  have hPS : m.pl.sigs = m.sigs := rfl
  have hPF : m.pl.funs = m.funs.map FV.pl := rfl
  have HPI := hide hPI
  have HPS := hide hPS
  have HPF := hide hPF
  obtain ⟨M, hM⟩ : ∃ M, m.pl = M := ⟨_, rfl⟩
  rw [hM] at HXX N2 N3 HPI HPS HPF
  clear hX n1 n2 n3 q1 q2 q3 hIm hFu hPI hPS hPF hM hQ hR
  obtain ⟨⟨S, Sn, Sc⟩, ⟨I, In, Ic⟩, ⟨F, Fn, Fc⟩, pg, mo, ⟨G, Gn, Gc⟩, ⟨E, En, Ec⟩, ⟨D, Dn, Dc⟩, sigs, imps, funs, glos, exps, dats⟩ := m
  simp only [] at hc a1 a2
  change Calls Tryd.prog 65 #[.agg #[.slice S Sn Sc, .slice I In Ic, .slice F Fn Fc, .int .i64 pg, .int .i64 mo, .slice G Gn Gc, .slice E En Ec, .slice D Dn Dc], .int .i64 i] w _
  rcases hc with ⟨hi0, hi1⟩ | ⟨hi0, hi1⟩ | hno
  · skip
    have B0 : Below w.heap.size w ((w.alloc (.cells #[.slice S Sn Sc, .slice I In Ic, .slice F Fn Fc, .int .i64 pg, .int .i64 mo, .slice G Gn Gc, .slice E En Ec, .slice D Dn Dc] 50)).alloc (.cells #[.int .i64 0, .int .i64 0] 55)) := by
      repeat (first | exact Below.refl _ _ | refine bel_drewN ?_ _ | refine Below.setCell ?_ (by simp <;> omega) _ | refine Below.alloc ?_ (by simp <;> omega) _)
    have K0 : Blk ((w.alloc (.cells #[.slice S Sn Sc, .slice I In Ic, .slice F Fn Fc, .int .i64 pg, .int .i64 mo, .slice G Gn Gc, .slice E En Ec, .slice D Dn Dc] 50)).alloc (.cells #[.int .i64 0, .int .i64 0] 55)) w.heap.size #[.slice S Sn Sc, .slice I In Ic, .slice F Fn Fc, .int .i64 pg, .int .i64 mo, .slice G Gn Gc, .slice E En Ec, .slice D Dn Dc] 50 := (Blk.new w #[.slice S Sn Sc, .slice I In Ic, .slice F Fn Fc, .int .i64 pg, .int .i64 mo, .slice G Gn Gc, .slice E En Ec, .slice D Dn Dc] 50).alloc _
    have K1 : Blk ((w.alloc (.cells #[.slice S Sn Sc, .slice I In Ic, .slice F Fn Fc, .int .i64 pg, .int .i64 mo, .slice G Gn Gc, .slice E En Ec, .slice D Dn Dc] 50)).alloc (.cells #[.int .i64 0, .int .i64 0] 55)) (w.heap.size + 1) #[.int .i64 0, .int .i64 0] 55 := by
      have h := Blk.new (w.alloc (.cells #[.slice S Sn Sc, .slice I In Ic, .slice F Fn Fc, .int .i64 pg, .int .i64 mo, .slice G Gn Gc, .slice E En Ec, .slice D Dn Dc] 50)) #[.int .i64 0, .int .i64 0] 55
      simpa using h
    have HB0 := hide B0
    have HK0 := hide K0
    have HK1 := hide K1
    clear B0 K0 K1
    obtain ⟨k, rfl⟩ : ∃ k : Nat, i = k := ⟨i.toNat, by omega⟩
    obtain ⟨b, off, x, hA, hx, hbg, hcell⟩ := rd_get (wr := ((w.alloc (.cells #[.slice S Sn Sc, .slice I In Ic, .slice F Fn Fc, .int .i64 pg, .int .i64 mo, .slice G Gn Gc, .slice E En Ec, .slice D Dn Dc] 50)).alloc (.cells #[.int .i64 0, .int .i64 0] 55))) impL (by omega) HR.out.I k (by show k < In; omega) (fun p hp => HB0.out.cell hp)
    have hk1 : (k : Int) < In := hi1
    have hk0 : (0 : Int) ≤ k := by omega
    have hok := HIm.out x (List.mem_of_getElem? hx)
    obtain ⟨a, c, sg⟩ := x
    have hsg : 0 ≤ sg ∧ sg ≤ (Sn : Int) - 1 := by
      simp only [impR, Bool.and_eq_true] at hok
      exact of_decide_eq_true hok.1
    obtain ⟨j, rfl⟩ : ∃ j : Nat, sg = j := ⟨sg.toNat, by omega⟩
    obtain ⟨b', off', y, hB, hy, hbg', hcell'⟩ := rd_get (wr := ((w.alloc (.cells #[.slice S Sn Sc, .slice I In Ic, .slice F Fn Fc, .int .i64 pg, .int .i64 mo, .slice G Gn Gc, .slice E En Ec, .slice D Dn Dc] 50)).alloc (.cells #[.int .i64 0, .int .i64 0] 55))) sigL (by omega) HR.out.S j (by show j < Sn; omega) (fun p hp => HB0.out.cell hp)
    obtain ⟨pp, rr⟩ := y
    have hv : X = (pp, rr, true) := by
      rw [← HXX.out]
      exact sigP_imp (a := a) (c := c) (j := j) (by rw [N2.out]; exact hk1) (by rw [HPI.out]; exact hx) (by rw [HPS.out]; exact hy)
    subst hv
    have hj1 : (j : Int) < Sn := by omega
    have hj0 : (0 : Int) ≤ j := by omega
    have hc0 : ((w.alloc (.cells #[.slice S Sn Sc, .slice I In Ic, .slice F Fn Fc, .int .i64 pg, .int .i64 mo, .slice G Gn Gc, .slice E En Ec, .slice D Dn Dc] 50)).alloc (.cells #[.int .i64 0, .int .i64 0] 55)).cell? ⟨b, off + k * 3 + 2, none⟩ = some (.int .i64 (j : Int)) := hcell 2 _ rfl
    have hd0 : ((w.alloc (.cells #[.slice S Sn Sc, .slice I In Ic, .slice F Fn Fc, .int .i64 pg, .int .i64 mo, .slice G Gn Gc, .slice E En Ec, .slice D Dn Dc] 50)).alloc (.cells #[.int .i64 0, .int .i64 0] 55)).cell? ⟨b', off' + j * 2, none⟩ = some (.int .i64 pp) := hcell' 0 _ rfl
    have hd1 : ((w.alloc (.cells #[.slice S Sn Sc, .slice I In Ic, .slice F Fn Fc, .int .i64 pg, .int .i64 mo, .slice G Gn Gc, .slice E En Ec, .slice D Dn Dc] 50)).alloc (.cells #[.int .i64 0, .int .i64 0] 55)).cell? ⟨b', off' + j * 2 + 1, none⟩ = some (.int .i64 rr) := hcell' 1 _ rfl
    have z0 : ((w.alloc (.cells #[.slice S Sn Sc, .slice I In Ic, .slice F Fn Fc, .int .i64 pg, .int .i64 mo, .slice G Gn Gc, .slice E En Ec, .slice D Dn Dc] 50)).alloc (.cells #[.int .i64 0, .int .i64 0] 55)).cell? ⟨w.heap.size + 1, 0, none⟩ = some (.int .i64 0) := HK1.out.cell 0
    have z1 : ((w.alloc (.cells #[.slice S Sn Sc, .slice I In Ic, .slice F Fn Fc, .int .i64 pg, .int .i64 mo, .slice G Gn Gc, .slice E En Ec, .slice D Dn Dc] 50)).alloc (.cells #[.int .i64 0, .int .i64 0] 55)).cell? ⟨w.heap.size + 1, 1, none⟩ = some (.int .i64 0) := HK1.out.cell 1
    have zf : ∀ j, ((w.alloc (.cells #[.slice S Sn Sc, .slice I In Ic, .slice F Fn Fc, .int .i64 pg, .int .i64 mo, .slice G Gn Gc, .slice E En Ec, .slice D Dn Dc] 50)).alloc (.cells #[.int .i64 0, .int .i64 0] 55)).frozen? ⟨w.heap.size + 1, j, none⟩ = false := fun j => HK1.out.frozen j
    have p0 : ((w.alloc (.cells #[.slice S Sn Sc, .slice I In Ic, .slice F Fn Fc, .int .i64 pg, .int .i64 mo, .slice G Gn Gc, .slice E En Ec, .slice D Dn Dc] 50)).alloc (.cells #[.int .i64 0, .int .i64 0] 55)).cell? ⟨w.heap.size, 0, none⟩ = some (.slice S Sn Sc) := HK0.out.cell 0
    have p1 : ((w.alloc (.cells #[.slice S Sn Sc, .slice I In Ic, .slice F Fn Fc, .int .i64 pg, .int .i64 mo, .slice G Gn Gc, .slice E En Ec, .slice D Dn Dc] 50)).alloc (.cells #[.int .i64 0, .int .i64 0] 55)).cell? ⟨w.heap.size, 1, none⟩ = some (.slice I In Ic) := HK0.out.cell 1
    subst hA
    subst hB
    clear hcell hcell' hx hy hok
    go_enter Tryd.func65, Tryd.ntmps65
    go_wp2_with fail
    refine (within_t (k : Int) 0 ((In : Int) - 1) _ hk0 (by omega)).mono ?_
    rintro e v ⟨rfl, rfl⟩
    go_upto_region 3 with fail
    generalize ((w.alloc (.cells #[.slice (some ⟨b', off', none⟩) Sn Sc, .slice (some ⟨b, off, none⟩) In Ic, .slice F Fn Fc, .int .i64 pg, .int .i64 mo, .slice G Gn Gc, .slice E En Ec, .slice D Dn Dc] 50)).alloc (.cells #[.int .i64 0, .int .i64 0] 55)) = V0 at HB0 HK0 HK1 hc0 hd0 hd1 z0 z1 zf p0 p1 ⊢
    go_still_tail 10, (by kernel_rfl)
    go_wp2_with fail
    refine bodyPost_ret (v := .tuple #[.agg #[.int .i64 pp, .int .i64 rr], .bool true]) (by simp [results, Tryd.results65, go_sem, z0, z1]) rfl ⟨rfl, ?_⟩
    refine bel_drewN ?_ 1
    repeat refine Below.setCell ?_ (by simp <;> omega) _
    exact HB0.out
  · skip
    have B0 : Below w.heap.size w ((w.alloc (.cells #[.slice S Sn Sc, .slice I In Ic, .slice F Fn Fc, .int .i64 pg, .int .i64 mo, .slice G Gn Gc, .slice E En Ec, .slice D Dn Dc] 50)).alloc (.cells #[.int .i64 0, .int .i64 0] 55)) := by
      repeat (first | exact Below.refl _ _ | refine bel_drewN ?_ _ | refine Below.setCell ?_ (by simp <;> omega) _ | refine Below.alloc ?_ (by simp <;> omega) _)
    have K0 : Blk ((w.alloc (.cells #[.slice S Sn Sc, .slice I In Ic, .slice F Fn Fc, .int .i64 pg, .int .i64 mo, .slice G Gn Gc, .slice E En Ec, .slice D Dn Dc] 50)).alloc (.cells #[.int .i64 0, .int .i64 0] 55)) w.heap.size #[.slice S Sn Sc, .slice I In Ic, .slice F Fn Fc, .int .i64 pg, .int .i64 mo, .slice G Gn Gc, .slice E En Ec, .slice D Dn Dc] 50 := (Blk.new w #[.slice S Sn Sc, .slice I In Ic, .slice F Fn Fc, .int .i64 pg, .int .i64 mo, .slice G Gn Gc, .slice E En Ec, .slice D Dn Dc] 50).alloc _
    have K1 : Blk ((w.alloc (.cells #[.slice S Sn Sc, .slice I In Ic, .slice F Fn Fc, .int .i64 pg, .int .i64 mo, .slice G Gn Gc, .slice E En Ec, .slice D Dn Dc] 50)).alloc (.cells #[.int .i64 0, .int .i64 0] 55)) (w.heap.size + 1) #[.int .i64 0, .int .i64 0] 55 := by
      have h := Blk.new (w.alloc (.cells #[.slice S Sn Sc, .slice I In Ic, .slice F Fn Fc, .int .i64 pg, .int .i64 mo, .slice G Gn Gc, .slice E En Ec, .slice D Dn Dc] 50)) #[.int .i64 0, .int .i64 0] 55
      simpa using h
    have HB0 := hide B0
    have HK0 := hide K0
    have HK1 := hide K1
    clear B0 K0 K1
    obtain ⟨k, hik⟩ : ∃ k : Nat, i = (In : Int) + k := ⟨(i - In).toNat, by omega⟩
    obtain ⟨b, off, x, hA, hx, hbg, hcell⟩ := rd_get (wr := ((w.alloc (.cells #[.slice S Sn Sc, .slice I In Ic, .slice F Fn Fc, .int .i64 pg, .int .i64 mo, .slice G Gn Gc, .slice E En Ec, .slice D Dn Dc] 50)).alloc (.cells #[.int .i64 0, .int .i64 0] 55))) funL (by omega) HR.out.F k (by show k < Fn; omega) (fun p hp => HB0.out.cell hp)
    have hk1 : (k : Int) < Fn := by omega
    have hk0 : (0 : Int) ≤ k := by omega
    have hok := HFu.out x (List.mem_of_getElem? hx)
    obtain ⟨sg, lo, ⟨A2, n2, c2⟩, bd⟩ := x
    have hsg : 0 ≤ sg ∧ sg ≤ (Sn : Int) - 1 := by
      simp only [funR, FV.pl, Bool.and_eq_true] at hok
      exact of_decide_eq_true hok.1
    obtain ⟨j, rfl⟩ : ∃ j : Nat, sg = j := ⟨sg.toNat, by omega⟩
    obtain ⟨b', off', y, hB, hy, hbg', hcell'⟩ := rd_get (wr := ((w.alloc (.cells #[.slice S Sn Sc, .slice I In Ic, .slice F Fn Fc, .int .i64 pg, .int .i64 mo, .slice G Gn Gc, .slice E En Ec, .slice D Dn Dc] 50)).alloc (.cells #[.int .i64 0, .int .i64 0] 55))) sigL (by omega) HR.out.S j (by show j < Sn; omega) (fun p hp => HB0.out.cell hp)
    obtain ⟨pp, rr⟩ := y
    have hv : X = (pp, rr, true) := by
      rw [← HXX.out]
      exact sigP_fun (k := k) (j := j) (lo := lo) (b := bd) (by rw [N2.out]; exact hik) (by rw [N3.out]; exact hk1) (by rw [HPF.out, List.getElem?_map, hx]; rfl) (by rw [HPS.out]; exact hy)
    subst hv
    have hj1 : (j : Int) < Sn := by omega
    have hj0 : (0 : Int) ≤ j := by omega
    have hc0 : ((w.alloc (.cells #[.slice S Sn Sc, .slice I In Ic, .slice F Fn Fc, .int .i64 pg, .int .i64 mo, .slice G Gn Gc, .slice E En Ec, .slice D Dn Dc] 50)).alloc (.cells #[.int .i64 0, .int .i64 0] 55)).cell? ⟨b, off + k * 3, none⟩ = some (.int .i64 (j : Int)) := hcell 0 _ rfl
    have hd0 : ((w.alloc (.cells #[.slice S Sn Sc, .slice I In Ic, .slice F Fn Fc, .int .i64 pg, .int .i64 mo, .slice G Gn Gc, .slice E En Ec, .slice D Dn Dc] 50)).alloc (.cells #[.int .i64 0, .int .i64 0] 55)).cell? ⟨b', off' + j * 2, none⟩ = some (.int .i64 pp) := hcell' 0 _ rfl
    have hd1 : ((w.alloc (.cells #[.slice S Sn Sc, .slice I In Ic, .slice F Fn Fc, .int .i64 pg, .int .i64 mo, .slice G Gn Gc, .slice E En Ec, .slice D Dn Dc] 50)).alloc (.cells #[.int .i64 0, .int .i64 0] 55)).cell? ⟨b', off' + j * 2 + 1, none⟩ = some (.int .i64 rr) := hcell' 1 _ rfl
    have z0 : ((w.alloc (.cells #[.slice S Sn Sc, .slice I In Ic, .slice F Fn Fc, .int .i64 pg, .int .i64 mo, .slice G Gn Gc, .slice E En Ec, .slice D Dn Dc] 50)).alloc (.cells #[.int .i64 0, .int .i64 0] 55)).cell? ⟨w.heap.size + 1, 0, none⟩ = some (.int .i64 0) := HK1.out.cell 0
    have z1 : ((w.alloc (.cells #[.slice S Sn Sc, .slice I In Ic, .slice F Fn Fc, .int .i64 pg, .int .i64 mo, .slice G Gn Gc, .slice E En Ec, .slice D Dn Dc] 50)).alloc (.cells #[.int .i64 0, .int .i64 0] 55)).cell? ⟨w.heap.size + 1, 1, none⟩ = some (.int .i64 0) := HK1.out.cell 1
    have zf : ∀ j, ((w.alloc (.cells #[.slice S Sn Sc, .slice I In Ic, .slice F Fn Fc, .int .i64 pg, .int .i64 mo, .slice G Gn Gc, .slice E En Ec, .slice D Dn Dc] 50)).alloc (.cells #[.int .i64 0, .int .i64 0] 55)).frozen? ⟨w.heap.size + 1, j, none⟩ = false := fun j => HK1.out.frozen j
    have p0 : ((w.alloc (.cells #[.slice S Sn Sc, .slice I In Ic, .slice F Fn Fc, .int .i64 pg, .int .i64 mo, .slice G Gn Gc, .slice E En Ec, .slice D Dn Dc] 50)).alloc (.cells #[.int .i64 0, .int .i64 0] 55)).cell? ⟨w.heap.size, 0, none⟩ = some (.slice S Sn Sc) := HK0.out.cell 0
    have p1 : ((w.alloc (.cells #[.slice S Sn Sc, .slice I In Ic, .slice F Fn Fc, .int .i64 pg, .int .i64 mo, .slice G Gn Gc, .slice E En Ec, .slice D Dn Dc] 50)).alloc (.cells #[.int .i64 0, .int .i64 0] 55)).cell? ⟨w.heap.size, 1, none⟩ = some (.slice I In Ic) := HK0.out.cell 1
    have p2 : ((w.alloc (.cells #[.slice S Sn Sc, .slice I In Ic, .slice F Fn Fc, .int .i64 pg, .int .i64 mo, .slice G Gn Gc, .slice E En Ec, .slice D Dn Dc] 50)).alloc (.cells #[.int .i64 0, .int .i64 0] 55)).cell? ⟨w.heap.size, 2, none⟩ = some (.slice F Fn Fc) := HK0.out.cell 2
    have hge : (In : Int) ≤ i := hi0
    have hwk : IntKind.i64.wrap (k : Int) = k := by rw [IntKind.wrap_i64]; omega
    have hsub2 : i - (In : Int) = k := by omega
    have hnl : ¬ (i < (In : Int)) := by omega
    subst hA
    subst hB
    clear hcell hcell' hx hy hok hik
    go_enter Tryd.func65, Tryd.ntmps65
    go_wp2_with fail
    refine (within_f i 0 ((In : Int) - 1) _ (.inr (by omega))).mono ?_
    rintro e v ⟨rfl, rfl⟩
    go_wp2_with fail
    refine (within_t i In ((In : Int) + Fn - 1) _ hge (by omega)).mono ?_
    rintro e v ⟨rfl, rfl⟩
    go_upto_region 5 with fail
    generalize ((w.alloc (.cells #[.slice (some ⟨b', off', none⟩) Sn Sc, .slice I In Ic, .slice (some ⟨b, off, none⟩) Fn Fc, .int .i64 pg, .int .i64 mo, .slice G Gn Gc, .slice E En Ec, .slice D Dn Dc] 50)).alloc (.cells #[.int .i64 0, .int .i64 0] 55)) = V0 at HB0 HK0 HK1 hc0 hd0 hd1 z0 z1 zf p0 p1 p2 ⊢
    go_still_tail 12, (by kernel_rfl)
    go_wp2_with fail
    refine bodyPost_ret (v := .tuple #[.agg #[.int .i64 pp, .int .i64 rr], .bool true]) (by simp [results, Tryd.results65, go_sem, z0, z1]) rfl ⟨rfl, ?_⟩
    refine bel_drewN ?_ 1
    repeat refine Below.setCell ?_ (by simp <;> omega) _
    exact HB0.out
  · skip
    have B0 : Below w.heap.size w ((w.alloc (.cells #[.slice S Sn Sc, .slice I In Ic, .slice F Fn Fc, .int .i64 pg, .int .i64 mo, .slice G Gn Gc, .slice E En Ec, .slice D Dn Dc] 50)).alloc (.cells #[.int .i64 0, .int .i64 0] 55)) := by
      repeat (first | exact Below.refl _ _ | refine bel_drewN ?_ _ | refine Below.setCell ?_ (by simp <;> omega) _ | refine Below.alloc ?_ (by simp <;> omega) _)
    have K0 : Blk ((w.alloc (.cells #[.slice S Sn Sc, .slice I In Ic, .slice F Fn Fc, .int .i64 pg, .int .i64 mo, .slice G Gn Gc, .slice E En Ec, .slice D Dn Dc] 50)).alloc (.cells #[.int .i64 0, .int .i64 0] 55)) w.heap.size #[.slice S Sn Sc, .slice I In Ic, .slice F Fn Fc, .int .i64 pg, .int .i64 mo, .slice G Gn Gc, .slice E En Ec, .slice D Dn Dc] 50 := (Blk.new w #[.slice S Sn Sc, .slice I In Ic, .slice F Fn Fc, .int .i64 pg, .int .i64 mo, .slice G Gn Gc, .slice E En Ec, .slice D Dn Dc] 50).alloc _
    have K1 : Blk ((w.alloc (.cells #[.slice S Sn Sc, .slice I In Ic, .slice F Fn Fc, .int .i64 pg, .int .i64 mo, .slice G Gn Gc, .slice E En Ec, .slice D Dn Dc] 50)).alloc (.cells #[.int .i64 0, .int .i64 0] 55)) (w.heap.size + 1) #[.int .i64 0, .int .i64 0] 55 := by
      have h := Blk.new (w.alloc (.cells #[.slice S Sn Sc, .slice I In Ic, .slice F Fn Fc, .int .i64 pg, .int .i64 mo, .slice G Gn Gc, .slice E En Ec, .slice D Dn Dc] 50)) #[.int .i64 0, .int .i64 0] 55
      simpa using h
    have HB0 := hide B0
    have HK0 := hide K0
    have HK1 := hide K1
    clear B0 K0 K1
    have hv : X = (0, 0, false) := by
      rw [← HXX.out]
      exact sigP_no (by rw [N2.out, N3.out]; exact hno)
    subst hv
    have z0 : ((w.alloc (.cells #[.slice S Sn Sc, .slice I In Ic, .slice F Fn Fc, .int .i64 pg, .int .i64 mo, .slice G Gn Gc, .slice E En Ec, .slice D Dn Dc] 50)).alloc (.cells #[.int .i64 0, .int .i64 0] 55)).cell? ⟨w.heap.size + 1, 0, none⟩ = some (.int .i64 0) := HK1.out.cell 0
    have z1 : ((w.alloc (.cells #[.slice S Sn Sc, .slice I In Ic, .slice F Fn Fc, .int .i64 pg, .int .i64 mo, .slice G Gn Gc, .slice E En Ec, .slice D Dn Dc] 50)).alloc (.cells #[.int .i64 0, .int .i64 0] 55)).cell? ⟨w.heap.size + 1, 1, none⟩ = some (.int .i64 0) := HK1.out.cell 1
    have zf : ∀ j, ((w.alloc (.cells #[.slice S Sn Sc, .slice I In Ic, .slice F Fn Fc, .int .i64 pg, .int .i64 mo, .slice G Gn Gc, .slice E En Ec, .slice D Dn Dc] 50)).alloc (.cells #[.int .i64 0, .int .i64 0] 55)).frozen? ⟨w.heap.size + 1, j, none⟩ = false := fun j => HK1.out.frozen j
    have p0 : ((w.alloc (.cells #[.slice S Sn Sc, .slice I In Ic, .slice F Fn Fc, .int .i64 pg, .int .i64 mo, .slice G Gn Gc, .slice E En Ec, .slice D Dn Dc] 50)).alloc (.cells #[.int .i64 0, .int .i64 0] 55)).cell? ⟨w.heap.size, 0, none⟩ = some (.slice S Sn Sc) := HK0.out.cell 0
    have p1 : ((w.alloc (.cells #[.slice S Sn Sc, .slice I In Ic, .slice F Fn Fc, .int .i64 pg, .int .i64 mo, .slice G Gn Gc, .slice E En Ec, .slice D Dn Dc] 50)).alloc (.cells #[.int .i64 0, .int .i64 0] 55)).cell? ⟨w.heap.size, 1, none⟩ = some (.slice I In Ic) := HK0.out.cell 1
    have p2 : ((w.alloc (.cells #[.slice S Sn Sc, .slice I In Ic, .slice F Fn Fc, .int .i64 pg, .int .i64 mo, .slice G Gn Gc, .slice E En Ec, .slice D Dn Dc] 50)).alloc (.cells #[.int .i64 0, .int .i64 0] 55)).cell? ⟨w.heap.size, 2, none⟩ = some (.slice F Fn Fc) := HK0.out.cell 2
    go_enter Tryd.func65, Tryd.ntmps65
    go_wp2_with fail
    refine (within_f i 0 ((In : Int) - 1) _ (by omega)).mono ?_
    rintro e v ⟨rfl, rfl⟩
    go_wp2_with fail
    refine (within_f i In ((In : Int) + Fn - 1) _ (by omega)).mono ?_
    rintro e v ⟨rfl, rfl⟩
    go_wp2_with fail
    refine bodyPost_ret (v := .tuple #[.agg #[.int .i64 0, .int .i64 0], .bool false]) (by simp [results, Tryd.results65, go_sem, z0, z1]) rfl ⟨rfl, ?_⟩
    repeat refine Below.setCell ?_ (by simp <;> omega) _
    exact HB0.out
set_option maxRecDepth 100000 in
set_option maxHeartbeats 4000000 in
theorem sSigOf (m : MV) (i : Int) (w : World) (hR : m.Reads w) (hX : m.Long 1048576) (h63 : -9223372036854775808 ≤ i ∧ i ≤ 9223372036854775807) :
    Calls Tryd.prog 21 #[m.v, .int .i64 i] w (SigR (sigQ m.pl i) w) := by
  have HQ := hide (formQ_iff m w hR)
  have HC := hide (fun W (hb : Below w.heap.size w W) => sFormOk m W (hR.bel hb) hX)
  have HA := hide (fun W (hb : Below w.heap.size w W) (hq : FormQ m) => sSigA m i W (hR.bel hb) hq h63)
  obtain ⟨R, hRR⟩ : ∃ R, formR m.pl = R := ⟨_, rfl⟩
  have hs : sigQ m.pl i = if R then sigP m.pl i else (0, 0, false) := by unfold sigQ; rw [hRR]
  rw [hRR] at HC HQ
  rw [hs]
  clear hRR hs hR hX
  obtain ⟨p, r, ok, hp⟩ : ∃ p r ok, sigP m.pl i = (p, r, ok) := ⟨_, _, _, rfl⟩
  rw [hp] at HA ⊢
  clear hp
  obtain ⟨⟨S, Sn, Sc⟩, ⟨I, In, Ic⟩, ⟨F, Fn, Fc⟩, pg, mo, ⟨G, Gn, Gc⟩, ⟨E, En, Ec⟩, ⟨D, Dn, Dc⟩, sigs, imps, funs, glos, exps, dats⟩ := m
  have HC2 : Hid (∀ W, Below w.heap.size w W → Calls Tryd.prog 17 #[.agg #[.slice S Sn Sc, .slice I In Ic, .slice F Fn Fc, .int .i64 pg, .int .i64 mo, .slice G Gn Gc, .slice E En Ec, .slice D Dn Dc]] W fun e w' => e = .returned (.bool R) ∧ Below W.heap.size W w') := hide (fun W hb => HC.out W hb)
  have HA2 : Hid (∀ W, Below w.heap.size w W → Hid (R = true) → Calls Tryd.prog 64 #[.agg #[.slice S Sn Sc, .slice I In Ic, .slice F Fn Fc, .int .i64 pg, .int .i64 mo, .slice G Gn Gc, .slice E En Ec, .slice D Dn Dc], .int .i64 i] W (SigR (p, r, ok) W)) := hide (fun W hb h => HA.out W hb (HQ.out.1 h.out))
  clear HC HA HQ
  change Calls Tryd.prog 21 #[.agg #[.slice S Sn Sc, .slice I In Ic, .slice F Fn Fc, .int .i64 pg, .int .i64 mo, .slice G Gn Gc, .slice E En Ec, .slice D Dn Dc], .int .i64 i] w _
  have B0 : Below w.heap.size w ((w.alloc (.cells #[.slice S Sn Sc, .slice I In Ic, .slice F Fn Fc, .int .i64 pg, .int .i64 mo, .slice G Gn Gc, .slice E En Ec, .slice D Dn Dc] 50)).alloc (.cells #[.int .i64 0, .int .i64 0] 55)) := by
    repeat (first | exact Below.refl _ _ | refine bel_drewN ?_ _ | refine Below.setCell ?_ (by simp <;> omega) _ | refine Below.alloc ?_ (by simp <;> omega) _)
  have HB0 := hide B0
  have HK0 := hide (show Blk ((w.alloc (.cells #[.slice S Sn Sc, .slice I In Ic, .slice F Fn Fc, .int .i64 pg, .int .i64 mo, .slice G Gn Gc, .slice E En Ec, .slice D Dn Dc] 50)).alloc (.cells #[.int .i64 0, .int .i64 0] 55)) w.heap.size #[.slice S Sn Sc, .slice I In Ic, .slice F Fn Fc, .int .i64 pg, .int .i64 mo, .slice G Gn Gc, .slice E En Ec, .slice D Dn Dc] 50 from (Blk.new w #[.slice S Sn Sc, .slice I In Ic, .slice F Fn Fc, .int .i64 pg, .int .i64 mo, .slice G Gn Gc, .slice E En Ec, .slice D Dn Dc] 50).alloc _)
  have HK1 := hide (show Blk ((w.alloc (.cells #[.slice S Sn Sc, .slice I In Ic, .slice F Fn Fc, .int .i64 pg, .int .i64 mo, .slice G Gn Gc, .slice E En Ec, .slice D Dn Dc] 50)).alloc (.cells #[.int .i64 0, .int .i64 0] 55)) (w.heap.size + 1) #[.int .i64 0, .int .i64 0] 55 by
    have h := Blk.new (w.alloc (.cells #[.slice S Sn Sc, .slice I In Ic, .slice F Fn Fc, .int .i64 pg, .int .i64 mo, .slice G Gn Gc, .slice E En Ec, .slice D Dn Dc] 50)) #[.int .i64 0, .int .i64 0] 55
    simpa using h)
  clear B0
  cases R
  · go_enter Tryd.func21, Tryd.ntmps21
    go_wp2_with fail
    refine (HC2.out _ HB0.out).mono ?_
    rintro e v ⟨rfl, hb⟩
    have HB1 := hide (bel_step HB0.out hb HB0.out.size)
    have HK := hide (HK1.out.bel hb)
    have z0 : v.cell? ⟨w.heap.size + 1, 0, none⟩ = some (.int .i64 0) := HK.out.cell 0
    have z1 : v.cell? ⟨w.heap.size + 1, 1, none⟩ = some (.int .i64 0) := HK.out.cell 1
    have zf : ∀ j, v.frozen? ⟨w.heap.size + 1, j, none⟩ = false := fun j => HK.out.frozen j
    clear hb
    go_wp2_with fail
    refine bodyPost_ret (v := .tuple #[.agg #[.int .i64 0, .int .i64 0], .bool false]) (by simp [results, Tryd.results21, go_sem, z0, z1]) rfl ⟨rfl, ?_⟩
    repeat refine Below.setCell ?_ (by simp <;> omega) _
    exact HB1.out
  · go_enter Tryd.func21, Tryd.ntmps21
    go_wp2_with fail
    refine (HC2.out _ HB0.out).mono ?_
    rintro e v ⟨rfl, hb⟩
    have HB1 := hide (bel_step HB0.out hb HB0.out.size)
    have HKv := hide (HK1.out.bel hb)
    have HKm := hide (HK0.out.bel hb)
    have p_0 : v.cell? ⟨w.heap.size, 0, none⟩ = some (.slice S Sn Sc) := HKm.out.cell 0
    have p_1 : v.cell? ⟨w.heap.size, 1, none⟩ = some (.slice I In Ic) := HKm.out.cell 1
    have p_2 : v.cell? ⟨w.heap.size, 2, none⟩ = some (.slice F Fn Fc) := HKm.out.cell 2
    have p_3 : v.cell? ⟨w.heap.size, 3, none⟩ = some (.int .i64 pg) := HKm.out.cell 3
    have p_4 : v.cell? ⟨w.heap.size, 4, none⟩ = some (.int .i64 mo) := HKm.out.cell 4
    have p_5 : v.cell? ⟨w.heap.size, 5, none⟩ = some (.slice G Gn Gc) := HKm.out.cell 5
    have p_6 : v.cell? ⟨w.heap.size, 6, none⟩ = some (.slice E En Ec) := HKm.out.cell 6
    have p_7 : v.cell? ⟨w.heap.size, 7, none⟩ = some (.slice D Dn Dc) := HKm.out.cell 7
    clear hb
    go_wp2_with fail
    refine (HA2.out _ HB1.out (hide (by trivial))).mono ?_
    rintro e v2 ⟨rfl, hb⟩
    have HB2 := hide (bel_step HB1.out hb HB1.out.size)
    have HK := hide (HKv.out.bel hb)
    have z0 : v2.cell? ⟨w.heap.size + 1, 0, none⟩ = some (.int .i64 0) := HK.out.cell 0
    have z1 : v2.cell? ⟨w.heap.size + 1, 1, none⟩ = some (.int .i64 0) := HK.out.cell 1
    have zf : ∀ j, v2.frozen? ⟨w.heap.size + 1, j, none⟩ = false := fun j => HK.out.frozen j
    clear hb p_0 p_1 p_2 p_3 p_4 p_5 p_6 p_7
    go_wp2_with fail
    refine bodyPost_ret (v := .tuple #[.agg #[.int .i64 p, .int .i64 r], .bool ok]) (by simp [results, Tryd.results21, go_sem, z0, z1]) rfl ⟨rfl, ?_⟩
    repeat refine Below.setCell ?_ (by simp <;> omega) _
    exact HB2.out
set_option maxRecDepth 100000 in
set_option maxHeartbeats 4000000 in
theorem iSigOf (m : MV) (i : Int) (w : World) (hR : m.Reads w) (hX : m.Long 1048576) (hT : UTab w) (h63 : -9223372036854775808 ≤ i ∧ i ≤ 9223372036854775807) :
    Calls Tryd.prog 22 #[m.v, .int .i64 i] w (SigR (sigQ m.pl i) w) := by
  have HQ := hide (formQ_iff m w hR)
  have HC := hide (fun W (hb : Below w.heap.size w W) => iFormOk m W (hR.bel hb) hX (utab_bel hT hb))
  have HA := hide (fun W (hb : Below w.heap.size w W) (hq : FormQ m) => iSigA m i W (hR.bel hb) hq h63)
  obtain ⟨R, hRR⟩ : ∃ R, formR m.pl = R := ⟨_, rfl⟩
  have hs : sigQ m.pl i = if R then sigP m.pl i else (0, 0, false) := by unfold sigQ; rw [hRR]
  rw [hRR] at HC HQ
  rw [hs]
  clear hRR hs hR hX hT
  obtain ⟨p, r, ok, hp⟩ : ∃ p r ok, sigP m.pl i = (p, r, ok) := ⟨_, _, _, rfl⟩
  rw [hp] at HA ⊢
  clear hp
  obtain ⟨⟨S, Sn, Sc⟩, ⟨I, In, Ic⟩, ⟨F, Fn, Fc⟩, pg, mo, ⟨G, Gn, Gc⟩, ⟨E, En, Ec⟩, ⟨D, Dn, Dc⟩, sigs, imps, funs, glos, exps, dats⟩ := m
  have HC2 : Hid (∀ W, Below w.heap.size w W → Calls Tryd.prog 19 #[.agg #[.slice S Sn Sc, .slice I In Ic, .slice F Fn Fc, .int .i64 pg, .int .i64 mo, .slice G Gn Gc, .slice E En Ec, .slice D Dn Dc]] W fun e w' => e = .returned (.bool R) ∧ Below W.heap.size W w') := hide (fun W hb => HC.out W hb)
  have HA2 : Hid (∀ W, Below w.heap.size w W → Hid (R = true) → Calls Tryd.prog 65 #[.agg #[.slice S Sn Sc, .slice I In Ic, .slice F Fn Fc, .int .i64 pg, .int .i64 mo, .slice G Gn Gc, .slice E En Ec, .slice D Dn Dc], .int .i64 i] W (SigR (p, r, ok) W)) := hide (fun W hb h => HA.out W hb (HQ.out.1 h.out))
  clear HC HA HQ
  change Calls Tryd.prog 22 #[.agg #[.slice S Sn Sc, .slice I In Ic, .slice F Fn Fc, .int .i64 pg, .int .i64 mo, .slice G Gn Gc, .slice E En Ec, .slice D Dn Dc], .int .i64 i] w _
  have B0 : Below w.heap.size w ((w.alloc (.cells #[.slice S Sn Sc, .slice I In Ic, .slice F Fn Fc, .int .i64 pg, .int .i64 mo, .slice G Gn Gc, .slice E En Ec, .slice D Dn Dc] 50)).alloc (.cells #[.int .i64 0, .int .i64 0] 55)) := by
    repeat (first | exact Below.refl _ _ | refine bel_drewN ?_ _ | refine Below.setCell ?_ (by simp <;> omega) _ | refine Below.alloc ?_ (by simp <;> omega) _)
  have HB0 := hide B0
  have HK0 := hide (show Blk ((w.alloc (.cells #[.slice S Sn Sc, .slice I In Ic, .slice F Fn Fc, .int .i64 pg, .int .i64 mo, .slice G Gn Gc, .slice E En Ec, .slice D Dn Dc] 50)).alloc (.cells #[.int .i64 0, .int .i64 0] 55)) w.heap.size #[.slice S Sn Sc, .slice I In Ic, .slice F Fn Fc, .int .i64 pg, .int .i64 mo, .slice G Gn Gc, .slice E En Ec, .slice D Dn Dc] 50 from (Blk.new w #[.slice S Sn Sc, .slice I In Ic, .slice F Fn Fc, .int .i64 pg, .int .i64 mo, .slice G Gn Gc, .slice E En Ec, .slice D Dn Dc] 50).alloc _)
  have HK1 := hide (show Blk ((w.alloc (.cells #[.slice S Sn Sc, .slice I In Ic, .slice F Fn Fc, .int .i64 pg, .int .i64 mo, .slice G Gn Gc, .slice E En Ec, .slice D Dn Dc] 50)).alloc (.cells #[.int .i64 0, .int .i64 0] 55)) (w.heap.size + 1) #[.int .i64 0, .int .i64 0] 55 by
    have h := Blk.new (w.alloc (.cells #[.slice S Sn Sc, .slice I In Ic, .slice F Fn Fc, .int .i64 pg, .int .i64 mo, .slice G Gn Gc, .slice E En Ec, .slice D Dn Dc] 50)) #[.int .i64 0, .int .i64 0] 55
    simpa using h)
  clear B0
  cases R
  · go_enter Tryd.func22, Tryd.ntmps22
    go_wp2_with fail
    refine (HC2.out _ HB0.out).mono ?_
    rintro e v ⟨rfl, hb⟩
    have HB1 := hide (bel_step HB0.out hb HB0.out.size)
    have HK := hide (HK1.out.bel hb)
    have z0 : v.cell? ⟨w.heap.size + 1, 0, none⟩ = some (.int .i64 0) := HK.out.cell 0
    have z1 : v.cell? ⟨w.heap.size + 1, 1, none⟩ = some (.int .i64 0) := HK.out.cell 1
    have zf : ∀ j, v.frozen? ⟨w.heap.size + 1, j, none⟩ = false := fun j => HK.out.frozen j
    clear hb
    go_wp2_with fail
    refine bodyPost_ret (v := .tuple #[.agg #[.int .i64 0, .int .i64 0], .bool false]) (by simp [results, Tryd.results22, go_sem, z0, z1]) rfl ⟨rfl, ?_⟩
    repeat refine Below.setCell ?_ (by simp <;> omega) _
    exact HB1.out
  · go_enter Tryd.func22, Tryd.ntmps22
    go_wp2_with fail
    refine (HC2.out _ HB0.out).mono ?_
    rintro e v ⟨rfl, hb⟩
    have HB1 := hide (bel_step HB0.out hb HB0.out.size)
    have HKv := hide (HK1.out.bel hb)
    have HKm := hide (HK0.out.bel hb)
    have p_0 : v.cell? ⟨w.heap.size, 0, none⟩ = some (.slice S Sn Sc) := HKm.out.cell 0
    have p_1 : v.cell? ⟨w.heap.size, 1, none⟩ = some (.slice I In Ic) := HKm.out.cell 1
    have p_2 : v.cell? ⟨w.heap.size, 2, none⟩ = some (.slice F Fn Fc) := HKm.out.cell 2
    have p_3 : v.cell? ⟨w.heap.size, 3, none⟩ = some (.int .i64 pg) := HKm.out.cell 3
    have p_4 : v.cell? ⟨w.heap.size, 4, none⟩ = some (.int .i64 mo) := HKm.out.cell 4
    have p_5 : v.cell? ⟨w.heap.size, 5, none⟩ = some (.slice G Gn Gc) := HKm.out.cell 5
    have p_6 : v.cell? ⟨w.heap.size, 6, none⟩ = some (.slice E En Ec) := HKm.out.cell 6
    have p_7 : v.cell? ⟨w.heap.size, 7, none⟩ = some (.slice D Dn Dc) := HKm.out.cell 7
    clear hb
    go_wp2_with fail
    refine (HA2.out _ HB1.out (hide (by trivial))).mono ?_
    rintro e v2 ⟨rfl, hb⟩
    have HB2 := hide (bel_step HB1.out hb HB1.out.size)
    have HK := hide (HKv.out.bel hb)
    have z0 : v2.cell? ⟨w.heap.size + 1, 0, none⟩ = some (.int .i64 0) := HK.out.cell 0
    have z1 : v2.cell? ⟨w.heap.size + 1, 1, none⟩ = some (.int .i64 0) := HK.out.cell 1
    have zf : ∀ j, v2.frozen? ⟨w.heap.size + 1, j, none⟩ = false := fun j => HK.out.frozen j
    clear hb p_0 p_1 p_2 p_3 p_4 p_5 p_6 p_7
    go_wp2_with fail
    refine bodyPost_ret (v := .tuple #[.agg #[.int .i64 p, .int .i64 r], .bool ok]) (by simp [results, Tryd.results22, go_sem, z0, z1]) rfl ⟨rfl, ?_⟩
    repeat refine Below.setCell ?_ (by simp <;> omega) _
    exact HB2.out
end Go.Proofs.YtiinkfejdnfonaaDoor.Mo
