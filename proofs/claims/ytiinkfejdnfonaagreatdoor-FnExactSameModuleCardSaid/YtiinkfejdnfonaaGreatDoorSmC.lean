/- SameModule, in the program and in the reference: a contract each. -/
import Derived.Test.YtiinkfejdnfonaaGreatDoorMbX
import Derived.Test.YtiinkfejdnfonaaGreatDoorMbI
import Derived.Laws.BytesArg
namespace Go.Proofs.YtiinkfejdnfonaaGreatDoor.Mb
open Go.RowKit Go.Proofs.YtiinkfejdnfonaaGreatDoor.Num Go.Proofs.YtiinkfejdnfonaaGreatDoor.NumC Go.Proofs.YtiinkfejdnfonaaGreatDoor.Mem Go.Proofs.YtiinkfejdnfonaaGreatDoor.Shape Go.Proofs.YtiinkfejdnfonaaGreatDoor.Utf Go.Proofs.YtiinkfejdnfonaaGreatDoor.Ops Go.Proofs.YtiinkfejdnfonaaGreatDoor.Leb Go.Proofs.YtiinkfejdnfonaaGreatDoor.Mo Go.Proofs.YtiinkfejdnfonaaGreatDoor.Bb
set_option linter.unusedVariables false
theorem conv8 (w : World) (A : Option Addr) (n c : Nat) (xs : List Int) (h : Rd w w.heap.size 1 A n (by8 xs)) (hn : 0 < n) :
    (convert 31 9 (.slice A n c)).run Tryz.prog w = .ok (.string (strOfNums xs)) w := by
  obtain ⟨b, off, rfl, hb, hcell⟩ := h.2 hn
  have hl : xs.length = n := by have := h.1; simp only [by8, List.length_map] at this; omega
  refine run_convert_bytes_arg w _ _ Tryz.underlying31 Tryz.underlying5 b off n c xs hl (fun i hi => ?_) _ Tryz.underlying9
  have := hcell i _ (by8_get (by rw [hl]; exact hi))
  rw [this]
  congr 2
  simp [List.getD, List.getElem?_eq_getElem (show i < xs.length by rw [hl]; exact hi)]
def sameM (a b : Md) : Bool := formR a && (formR b && ((strOfNums (bytesM a)).toList == (strOfNums (bytesM b)).toList))
theorem bytesM_pos {M : Md} (h : formR M = true) : 0 < (bytesM M).length := by
  unfold bytesM
  rw [if_pos h]
  unfold modB
  rw [List.length_append]
  have : headB.length = 8 := rfl
  omega
theorem bytesEq_c (A B : Option Addr) (n c m d : Nat) (xs ys : List Int) (w : World) (ha : Rd w w.heap.size 1 A n (by8 xs)) (hb : Rd w w.heap.size 1 B m (by8 ys)) (hn : 0 < n) (hm : 0 < m) :
    Calls Tryz.prog 69 #[.slice A n c, .slice B m d] w fun e w' => e = .returned (.bool ((strOfNums xs).toList == (strOfNums ys).toList)) ∧ Below w.heap.size w w' := by
  have k1 := conv8 w A n c xs ha hn
  have k2 := conv8 w B m d ys hb hm
  obtain ⟨S, hS⟩ : ∃ S, strOfNums xs = S := ⟨_, rfl⟩
  obtain ⟨T, hT⟩ : ∃ T, strOfNums ys = T := ⟨_, rfl⟩
  rw [hS] at k1 ⊢
  rw [hT] at k2 ⊢
  clear ha hb hS hT
  go_enter Tryz.func69, Tryz.ntmps69
  go_wp2_with fail
  go_ret
  exact ⟨rfl, Below.refl _ _⟩
set_option maxRecDepth 100000 in
set_option maxHeartbeats 4000000 in
theorem sSameModule (a b : MV) (w : World) (ha : a.Reads w) (hb : b.Reads w) (xa : a.Long 1048576) (xb : b.Long 1048576) :
    Calls Tryz.prog 14 #[a.v, b.v] w fun e w' => e = .returned (.bool (sameM a.pl b.pl)) ∧ Below w.heap.size w w' := by
  have CA := hide (fun W (hw : Below w.heap.size w W) => sModuleBytes a W (ha.bel hw) xa)
  have CB := hide (fun W (hw : Below w.heap.size w W) => sModuleBytes b W (hb.bel hw) xb)
  have PA := hide (bytesM_pos (M := a.pl))
  have PB := hide (bytesM_pos (M := b.pl))
  unfold sameM
  obtain ⟨Ra, hRa⟩ : ∃ Ra, formR a.pl = Ra := ⟨_, rfl⟩
  obtain ⟨Rb, hRb⟩ : ∃ Rb, formR b.pl = Rb := ⟨_, rfl⟩
  obtain ⟨La, hLa⟩ : ∃ La, bytesM a.pl = La := ⟨_, rfl⟩
  obtain ⟨Lb, hLb⟩ : ∃ Lb, bytesM b.pl = Lb := ⟨_, rfl⟩
  rw [hRa, hLa] at CA PA ⊢
  rw [hRb, hLb] at CB PB ⊢
  obtain ⟨S, hS⟩ : ∃ S, strOfNums La = S := ⟨_, rfl⟩
  obtain ⟨T, hT'⟩ : ∃ T, strOfNums Lb = T := ⟨_, rfl⟩
  rw [hS, hT']
  have HSS := hide hS
  have HTT := hide hT'
  clear hRa hRb hLa hLb ha hb xa xb hS hT'
  obtain ⟨⟨Sa, Sna, Sca⟩, ⟨Ia, Ina, Ica⟩, ⟨Fa, Fna, Fca⟩, pga, moa, ⟨Ga, Gna, Gca⟩, ⟨Ea, Ena, Eca⟩, ⟨Da, Dna, Dca⟩, sigsa, impsa, funsa, glosa, expsa, datsa⟩ := a
  obtain ⟨⟨Sb, Snb, Scb⟩, ⟨Ib, Inb, Icb⟩, ⟨Fb, Fnb, Fcb⟩, pgb, mob, ⟨Gb, Gnb, Gcb⟩, ⟨Eb, Enb, Ecb⟩, ⟨Db, Dnb, Dcb⟩, sigsb, impsb, funsb, glosb, expsb, datsb⟩ := b
  have CA2 : Hid (∀ W, Below w.heap.size w W → Calls Tryz.prog 6 #[.agg #[.slice Sa Sna Sca, .slice Ia Ina Ica, .slice Fa Fna Fca, .int .i64 pga, .int .i64 moa, .slice Ga Gna Gca, .slice Ea Ena Eca, .slice Da Dna Dca]] W (BytesR Ra La W)) := hide (fun W hw => CA.out W hw)
  have CB2 : Hid (∀ W, Below w.heap.size w W → Calls Tryz.prog 6 #[.agg #[.slice Sb Snb Scb, .slice Ib Inb Icb, .slice Fb Fnb Fcb, .int .i64 pgb, .int .i64 mob, .slice Gb Gnb Gcb, .slice Eb Enb Ecb, .slice Db Dnb Dcb]] W (BytesR Rb Lb W)) := hide (fun W hw => CB.out W hw)
  clear CA CB
  have B0 := hide (show Below w.heap.size w ((w.alloc (.cells #[.slice Sa Sna Sca, .slice Ia Ina Ica, .slice Fa Fna Fca, .int .i64 pga, .int .i64 moa, .slice Ga Gna Gca, .slice Ea Ena Eca, .slice Da Dna Dca] 41)).alloc (.cells #[.slice Sb Snb Scb, .slice Ib Inb Icb, .slice Fb Fnb Fcb, .int .i64 pgb, .int .i64 mob, .slice Gb Gnb Gcb, .slice Eb Enb Ecb, .slice Db Dnb Dcb] 41)) from ((Below.refl w.heap.size w).alloc (Nat.le_refl _) _).alloc (by simp) _)
  have HKb := hide (show Blk ((w.alloc (.cells #[.slice Sa Sna Sca, .slice Ia Ina Ica, .slice Fa Fna Fca, .int .i64 pga, .int .i64 moa, .slice Ga Gna Gca, .slice Ea Ena Eca, .slice Da Dna Dca] 41)).alloc (.cells #[.slice Sb Snb Scb, .slice Ib Inb Icb, .slice Fb Fnb Fcb, .int .i64 pgb, .int .i64 mob, .slice Gb Gnb Gcb, .slice Eb Enb Ecb, .slice Db Dnb Dcb] 41)) (w.heap.size + 1) #[.slice Sb Snb Scb, .slice Ib Inb Icb, .slice Fb Fnb Fcb, .int .i64 pgb, .int .i64 mob, .slice Gb Gnb Gcb, .slice Eb Enb Ecb, .slice Db Dnb Dcb] 41 by
    have h := Blk.new (w.alloc (.cells #[.slice Sa Sna Sca, .slice Ia Ina Ica, .slice Fa Fna Fca, .int .i64 pga, .int .i64 moa, .slice Ga Gna Gca, .slice Ea Ena Eca, .slice Da Dna Dca] 41)) #[.slice Sb Snb Scb, .slice Ib Inb Icb, .slice Fb Fnb Fcb, .int .i64 pgb, .int .i64 mob, .slice Gb Gnb Gcb, .slice Eb Enb Ecb, .slice Db Dnb Dcb] 41
    simpa using h)
  change Calls Tryz.prog 14 #[.agg #[.slice Sa Sna Sca, .slice Ia Ina Ica, .slice Fa Fna Fca, .int .i64 pga, .int .i64 moa, .slice Ga Gna Gca, .slice Ea Ena Eca, .slice Da Dna Dca], .agg #[.slice Sb Snb Scb, .slice Ib Inb Icb, .slice Fb Fnb Fcb, .int .i64 pgb, .int .i64 mob, .slice Gb Gnb Gcb, .slice Eb Enb Ecb, .slice Db Dnb Dcb]] w _
  go_enter Tryz.func14, Tryz.ntmps14
  go_wp2_with fail
  generalize (w.alloc (.cells #[.slice Sa Sna Sca, .slice Ia Ina Ica, .slice Fa Fna Fca, .int .i64 pga, .int .i64 moa, .slice Ga Gna Gca, .slice Ea Ena Eca, .slice Da Dna Dca] 41)).alloc (.cells #[.slice Sb Snb Scb, .slice Ib Inb Icb, .slice Fb Fnb Fcb, .int .i64 pgb, .int .i64 mob, .slice Gb Gnb Gcb, .slice Eb Enb Ecb, .slice Db Dnb Dcb] 41) = W0 at B0 HKb ⊢
  refine (CA2.out _ B0.out).mono ?_
  rintro e w1 ⟨A1, d1, rfl, ho1, hb1⟩
  have HO1 := hide ho1.rd
  have HB1 := hide (bel_step B0.out hb1 B0.out.size)
  have HK1 := hide (HKb.out.bel hb1)
  clear ho1 hb1 B0 HKb
  have p0 : w1.cell? ⟨w.heap.size + 1, 0, none⟩ = some (.slice Sb Snb Scb) := HK1.out.cell 0
  have p1 : w1.cell? ⟨w.heap.size + 1, 1, none⟩ = some (.slice Ib Inb Icb) := HK1.out.cell 1
  have p2 : w1.cell? ⟨w.heap.size + 1, 2, none⟩ = some (.slice Fb Fnb Fcb) := HK1.out.cell 2
  have p3 : w1.cell? ⟨w.heap.size + 1, 3, none⟩ = some (.int .i64 pgb) := HK1.out.cell 3
  have p4 : w1.cell? ⟨w.heap.size + 1, 4, none⟩ = some (.int .i64 mob) := HK1.out.cell 4
  have p5 : w1.cell? ⟨w.heap.size + 1, 5, none⟩ = some (.slice Gb Gnb Gcb) := HK1.out.cell 5
  have p6 : w1.cell? ⟨w.heap.size + 1, 6, none⟩ = some (.slice Eb Enb Ecb) := HK1.out.cell 6
  have p7 : w1.cell? ⟨w.heap.size + 1, 7, none⟩ = some (.slice Db Dnb Dcb) := HK1.out.cell 7
  go_wp2_with fail
  refine (CB2.out _ HB1.out).mono ?_
  rintro e w2 ⟨A2, d2, rfl, ho2, hb2⟩
  have HO2 := hide ho2.rd
  have HB2 := hide (bel_step HB1.out hb2 HB1.out.size)
  have HBB := hide hb2
  clear ho2 hb2 CA2 CB2 HK1 p0 p1 p2 p3 p4 p5 p6 p7
  cases Ra
  · go_wp2_with fail
    go_ret
    exact ⟨rfl, HB2.out⟩
  cases Rb
  · go_wp2_with fail
    go_ret
    exact ⟨rfl, HB2.out⟩
  · have hpa := PA.out rfl
    have hpb := PB.out rfl
    have hb2' := HBB.out
    have k1 := conv8 w2 A1 La.length d1 La (HO1.out.bel hb2') hpa
    have k2 := conv8 w2 A2 Lb.length d2 Lb HO2.out hpb
    rw [HSS.out] at k1
    rw [HTT.out] at k2
    clear hpa hpb hb2' HSS HTT
    go_wp2_with fail
    go_ret
    exact ⟨rfl, HB2.out⟩
set_option maxRecDepth 100000 in
set_option maxHeartbeats 4000000 in
theorem iSameModule (a b : MV) (w : World) (ha : a.Reads w) (hb : b.Reads w) (xa : a.Long 1048576) (xb : b.Long 1048576) (hT : UTab w) :
    Calls Tryz.prog 15 #[a.v, b.v] w fun e w' => e = .returned (.bool (sameM a.pl b.pl)) ∧ Below w.heap.size w w' := by
  have CA := hide (fun W (hw : Below w.heap.size w W) => iModuleBytes a W (ha.bel hw) xa (utab_bel hT hw))
  have CB := hide (fun W (hw : Below w.heap.size w W) => iModuleBytes b W (hb.bel hw) xb (utab_bel hT hw))
  have PA := hide (bytesM_pos (M := a.pl))
  have PB := hide (bytesM_pos (M := b.pl))
  unfold sameM
  obtain ⟨Ra, hRa⟩ : ∃ Ra, formR a.pl = Ra := ⟨_, rfl⟩
  obtain ⟨Rb, hRb⟩ : ∃ Rb, formR b.pl = Rb := ⟨_, rfl⟩
  obtain ⟨La, hLa⟩ : ∃ La, bytesM a.pl = La := ⟨_, rfl⟩
  obtain ⟨Lb, hLb⟩ : ∃ Lb, bytesM b.pl = Lb := ⟨_, rfl⟩
  rw [hRa, hLa] at CA PA ⊢
  rw [hRb, hLb] at CB PB ⊢
  obtain ⟨S, hS⟩ : ∃ S, strOfNums La = S := ⟨_, rfl⟩
  obtain ⟨T, hT'⟩ : ∃ T, strOfNums Lb = T := ⟨_, rfl⟩
  rw [hS, hT']
  have HSS := hide hS
  have HTT := hide hT'
  obtain ⟨R, hR⟩ : ∃ R, (S.toList == T.toList) = R := ⟨_, rfl⟩
  rw [hR]
  have HRR := hide hR
  clear hR
  clear hRa hRb hLa hLb ha hb xa xb hS hT' hT
  obtain ⟨⟨Sa, Sna, Sca⟩, ⟨Ia, Ina, Ica⟩, ⟨Fa, Fna, Fca⟩, pga, moa, ⟨Ga, Gna, Gca⟩, ⟨Ea, Ena, Eca⟩, ⟨Da, Dna, Dca⟩, sigsa, impsa, funsa, glosa, expsa, datsa⟩ := a
  obtain ⟨⟨Sb, Snb, Scb⟩, ⟨Ib, Inb, Icb⟩, ⟨Fb, Fnb, Fcb⟩, pgb, mob, ⟨Gb, Gnb, Gcb⟩, ⟨Eb, Enb, Ecb⟩, ⟨Db, Dnb, Dcb⟩, sigsb, impsb, funsb, glosb, expsb, datsb⟩ := b
  have CA2 : Hid (∀ W, Below w.heap.size w W → Calls Tryz.prog 8 #[.agg #[.slice Sa Sna Sca, .slice Ia Ina Ica, .slice Fa Fna Fca, .int .i64 pga, .int .i64 moa, .slice Ga Gna Gca, .slice Ea Ena Eca, .slice Da Dna Dca]] W (BytesR Ra La W)) := hide (fun W hw => CA.out W hw)
  have CB2 : Hid (∀ W, Below w.heap.size w W → Calls Tryz.prog 8 #[.agg #[.slice Sb Snb Scb, .slice Ib Inb Icb, .slice Fb Fnb Fcb, .int .i64 pgb, .int .i64 mob, .slice Gb Gnb Gcb, .slice Eb Enb Ecb, .slice Db Dnb Dcb]] W (BytesR Rb Lb W)) := hide (fun W hw => CB.out W hw)
  clear CA CB
  have B0 := hide (show Below w.heap.size w ((w.alloc (.cells #[.slice Sa Sna Sca, .slice Ia Ina Ica, .slice Fa Fna Fca, .int .i64 pga, .int .i64 moa, .slice Ga Gna Gca, .slice Ea Ena Eca, .slice Da Dna Dca] 41)).alloc (.cells #[.slice Sb Snb Scb, .slice Ib Inb Icb, .slice Fb Fnb Fcb, .int .i64 pgb, .int .i64 mob, .slice Gb Gnb Gcb, .slice Eb Enb Ecb, .slice Db Dnb Dcb] 41)) from ((Below.refl w.heap.size w).alloc (Nat.le_refl _) _).alloc (by simp) _)
  have HKb := hide (show Blk ((w.alloc (.cells #[.slice Sa Sna Sca, .slice Ia Ina Ica, .slice Fa Fna Fca, .int .i64 pga, .int .i64 moa, .slice Ga Gna Gca, .slice Ea Ena Eca, .slice Da Dna Dca] 41)).alloc (.cells #[.slice Sb Snb Scb, .slice Ib Inb Icb, .slice Fb Fnb Fcb, .int .i64 pgb, .int .i64 mob, .slice Gb Gnb Gcb, .slice Eb Enb Ecb, .slice Db Dnb Dcb] 41)) (w.heap.size + 1) #[.slice Sb Snb Scb, .slice Ib Inb Icb, .slice Fb Fnb Fcb, .int .i64 pgb, .int .i64 mob, .slice Gb Gnb Gcb, .slice Eb Enb Ecb, .slice Db Dnb Dcb] 41 by
    have h := Blk.new (w.alloc (.cells #[.slice Sa Sna Sca, .slice Ia Ina Ica, .slice Fa Fna Fca, .int .i64 pga, .int .i64 moa, .slice Ga Gna Gca, .slice Ea Ena Eca, .slice Da Dna Dca] 41)) #[.slice Sb Snb Scb, .slice Ib Inb Icb, .slice Fb Fnb Fcb, .int .i64 pgb, .int .i64 mob, .slice Gb Gnb Gcb, .slice Eb Enb Ecb, .slice Db Dnb Dcb] 41
    simpa using h)
  change Calls Tryz.prog 15 #[.agg #[.slice Sa Sna Sca, .slice Ia Ina Ica, .slice Fa Fna Fca, .int .i64 pga, .int .i64 moa, .slice Ga Gna Gca, .slice Ea Ena Eca, .slice Da Dna Dca], .agg #[.slice Sb Snb Scb, .slice Ib Inb Icb, .slice Fb Fnb Fcb, .int .i64 pgb, .int .i64 mob, .slice Gb Gnb Gcb, .slice Eb Enb Ecb, .slice Db Dnb Dcb]] w _
  go_enter Tryz.func15, Tryz.ntmps15
  go_wp2_with fail
  generalize (w.alloc (.cells #[.slice Sa Sna Sca, .slice Ia Ina Ica, .slice Fa Fna Fca, .int .i64 pga, .int .i64 moa, .slice Ga Gna Gca, .slice Ea Ena Eca, .slice Da Dna Dca] 41)).alloc (.cells #[.slice Sb Snb Scb, .slice Ib Inb Icb, .slice Fb Fnb Fcb, .int .i64 pgb, .int .i64 mob, .slice Gb Gnb Gcb, .slice Eb Enb Ecb, .slice Db Dnb Dcb] 41) = W0 at B0 HKb ⊢
  refine (CA2.out _ B0.out).mono ?_
  rintro e w1 ⟨A1, d1, rfl, ho1, hb1⟩
  have HO1 := hide ho1.rd
  have HB1 := hide (bel_step B0.out hb1 B0.out.size)
  have HK1 := hide (HKb.out.bel hb1)
  clear ho1 hb1 B0 HKb
  have p0 : w1.cell? ⟨w.heap.size + 1, 0, none⟩ = some (.slice Sb Snb Scb) := HK1.out.cell 0
  have p1 : w1.cell? ⟨w.heap.size + 1, 1, none⟩ = some (.slice Ib Inb Icb) := HK1.out.cell 1
  have p2 : w1.cell? ⟨w.heap.size + 1, 2, none⟩ = some (.slice Fb Fnb Fcb) := HK1.out.cell 2
  have p3 : w1.cell? ⟨w.heap.size + 1, 3, none⟩ = some (.int .i64 pgb) := HK1.out.cell 3
  have p4 : w1.cell? ⟨w.heap.size + 1, 4, none⟩ = some (.int .i64 mob) := HK1.out.cell 4
  have p5 : w1.cell? ⟨w.heap.size + 1, 5, none⟩ = some (.slice Gb Gnb Gcb) := HK1.out.cell 5
  have p6 : w1.cell? ⟨w.heap.size + 1, 6, none⟩ = some (.slice Eb Enb Ecb) := HK1.out.cell 6
  have p7 : w1.cell? ⟨w.heap.size + 1, 7, none⟩ = some (.slice Db Dnb Dcb) := HK1.out.cell 7
  go_wp2_with fail
  refine (CB2.out _ HB1.out).mono ?_
  rintro e w2 ⟨A2, d2, rfl, ho2, hb2⟩
  have HO2 := hide ho2.rd
  have HB2 := hide (bel_step HB1.out hb2 HB1.out.size)
  have HBB := hide hb2
  clear ho2 hb2 CA2 CB2 HK1 p0 p1 p2 p3 p4 p5 p6 p7
  cases Ra
  · go_wp2_with fail
    go_ret
    exact ⟨rfl, HB2.out⟩
  cases Rb
  · go_wp2_with fail
    go_ret
    exact ⟨rfl, HB2.out⟩
  · have hpa := PA.out rfl
    have hpb := PB.out rfl
    have hb2' := HBB.out
    have HE := hide (bytesEq_c A1 A2 La.length d1 Lb.length d2 La Lb w2 (HO1.out.bel hb2') HO2.out hpa hpb)
    rw [HSS.out, HTT.out, HRR.out] at HE
    clear hpa hpb hb2' HSS HTT HRR
    go_wp2_with fail
    refine HE.out.mono ?_
    rintro e w3 ⟨rfl, hb3⟩
    have HB3 := hide (bel_step HB2.out hb3 HB2.out.size)
    clear hb3
    go_wp2_with fail
    go_ret
    exact ⟨by simp, HB3.out⟩
end Go.Proofs.YtiinkfejdnfonaaGreatDoor.Mb
