/- The law on TextBody, walked. -/
import Derived.Test.YtiinkfejdnfonaaDoorCutI
import Derived.Test.YtiinkfejdnfonaaDoorInsM
import Derived.Test.YtiinkfejdnfonaaDoorRows
import Derived.Lib.LaidU8
import Derived.Below
import Derived.Stop.LaidErr
import Derived.Handed
namespace Go.Proofs.YtiinkfejdnfonaaDoor
open Go.RowKit Go.Proofs.YtiinkfejdnfonaaDoor.Num Go.Proofs.YtiinkfejdnfonaaDoor.NumC Go.Proofs.YtiinkfejdnfonaaDoor.Mem Go.Proofs.YtiinkfejdnfonaaDoor.Shape Go.Proofs.YtiinkfejdnfonaaDoor.Ops Go.Proofs.YtiinkfejdnfonaaDoor.Dig Go.Proofs.YtiinkfejdnfonaaDoor.Tn Go.Proofs.YtiinkfejdnfonaaDoor.Bt Go.Proofs.YtiinkfejdnfonaaDoor.Cut
set_option linter.unusedVariables false
set_option maxRecDepth 100000
theorem tbTab {W : World} {name : String} {k : IntKind} {zs : List Int} {g : Nat} {t e : TypeId} {n : Nat}
    (hg : Tryd.prog.globalNamed name = some g) (hty : (Tryd.prog.globals[g]?).map (·.type) = some t) (ht : Tryd.prog.underlying t = some (.array n e)) (he : Tryd.prog.underlying e = some (.int k)) (hce : Tryd.prog.cellsOf e = 1) (hct : Tryd.prog.cellsOf t = n)
    (h : Lib.VarReads Tryd.prog W name (Lib.tabData k zs)) : Lib.TabIs Tryd.prog W name k zs := by
  obtain ⟨g', t', cs, fuel, p, hg', ht', hvar, hd⟩ := h
  obtain rfl := Option.some.inj (hg.symm.trans hg')
  obtain rfl := Option.some.inj (hty.symm.trans ht')
  unfold Lib.TabIs
  rw [hvar, ← Lib.cells_of_tab ht he hce hct hd]
theorem tbErr {l : List (String × DataW Unit)} {W : World} {n nm : String} {d : DataW Unit} {g : Nat} (h : laidMet Tryd.prog l W) (hm : (n, DataW.iface nm d) ∈ l) (hg : Tryd.prog.globalNamed n = some g) (ht : (Tryd.prog.globals[g]?).map (·.type) = some 117) : ErrAt g W := by
  obtain ⟨g', t, cs, fuel, p, hg', hty, hvar, hd⟩ := Lib.laidMet.reads h hm
  obtain rfl := Option.some.inj (hg.symm.trans hg')
  obtain rfl := Option.some.inj (ht.symm.trans hty)
  obtain ⟨l0⟩ := cs
  obtain ⟨f1, u, v, rfl, _, _⟩ := iface_of_trod Tryd.underlying117 hd
  exact ⟨u, v, by have := World.var?_cell hg hvar 0; simpa using this⟩
theorem tb_lib {W : World} (h : laidMetH Tryd.prog Rows.fnExactTextBodyRow.laid W) : Tab W ∧ Lib3 W := by
  have m1 : (("strings.asciiSpace", Rows.laid_strings_asciiSpace) : String × DataW Unit) ∈ Rows.fnExactTextBodyRow.laid := List.Mem.tail _ (List.Mem.tail _ (List.Mem.tail _ (List.Mem.tail _ (List.Mem.tail _ (List.Mem.tail _ (List.Mem.tail _ (List.Mem.head _)))))))
  have m2 : (("internal/strconv.uint64pow10", Rows.laid_internal_strconv_uint64pow10) : String × DataW Unit) ∈ Rows.fnExactTextBodyRow.laid := List.Mem.tail _ (List.Mem.tail _ (List.Mem.head _))
  have m3 : (("strconv.ErrSyntax", DataW.iface "*errors.errorString" (.ptr (.agg [.lit (.string [105, 110, 118, 97, 108, 105, 100, 32, 115, 121, 110, 116, 97, 120])]))) : String × DataW Unit) ∈ Rows.fnExactTextBodyRow.laid :=
    List.Mem.tail _ (List.Mem.tail _ (List.Mem.tail _ (List.Mem.tail _ (List.Mem.tail _ (List.Mem.head _)))))
  have m4 : (("strconv.ErrRange", DataW.iface "*errors.errorString" (.ptr (.agg [.lit (.string [118, 97, 108, 117, 101, 32, 111, 117, 116, 32, 111, 102, 32, 114, 97, 110, 103, 101])]))) : String × DataW Unit) ∈ Rows.fnExactTextBodyRow.laid :=
    List.Mem.tail _ (List.Mem.tail _ (List.Mem.tail _ (List.Mem.tail _ (List.Mem.head _))))
  exact ⟨tbTab (g := 0) (t := 163) (e := 5) (by kernel_rfl) (by kernel_rfl) Tryd.underlying163 Tryd.underlying5 (by kernel_rfl) (by kernel_rfl) (Lib.laidMet.reads h m1),
    tbTab (g := 7) (t := 214) (e := 184) (by kernel_rfl) (by kernel_rfl) Tryd.underlying214 Tryd.underlying184 (by kernel_rfl) (by kernel_rfl) (Lib.laidMet.reads h m2),
    tbErr h m3 (by kernel_rfl) (by kernel_rfl), tbErr h m4 (by kernel_rfl) (by kernel_rfl)⟩
/-- a variable of one number holds a number -/
theorem tb_num {W : World} (h : W.ShapedOpen Tryd.prog) : LenAt W := by
  obtain ⟨zero, hz0, hz1⟩ : ∃ zero, ((begin Tryd.prog (fun _ _ => 0) default).world.heap[3]?).bind Obj.row? = some (zero, 3) ∧ zero.size = 1 := by
    have e : (((begin Tryd.prog (fun _ _ => 0) default).world.heap[3]?).bind Obj.row?).map (fun x => (x.1.size, x.2)) = some (1, 3) := by kernel_rfl
    obtain ⟨⟨z, t⟩, h1, h2⟩ := Option.map_eq_some_iff.1 e
    simp only [Prod.mk.injEq] at h2
    exact ⟨z, by rw [h1, h2.2], h2.1⟩
  obtain ⟨cs, hh, hs, hr⟩ := h.1 3 zero 3 (of_decide_eq_true (by kernel_rfl)) hz0
  obtain ⟨ts, hts, _, hall⟩ := hr (by kernel_rfl)
  obtain rfl : [3] = ts := Option.some.inj ((show Tryd.prog.cellTypes Tryd.prog.depth 3 = some [3] by kernel_rfl).symm.trans hts)
  have h1 : 0 < cs.size := by omega
  obtain ⟨u, hu, hok⟩ := hall 0 cs[0] (by simp [h1])
  obtain rfl : 3 = u := by simpa using hu
  have hcell : W.cell? ⟨3, 0, none⟩ = some cs[0] := by simp [World.cell?, hh, h1]
  generalize cs[0] = v at hok hcell
  unfold Cell.ok at hok
  rw [Tryd.underlying3] at hok
  cases v <;> simp only [] at hok
  obtain ⟨rfl, _⟩ := hok
  exact ⟨_, hcell⟩
/-- what the law asks of TextBody -/
def BodyQ (L : List Ins3) (ok : Bool) (N : Nat) (w : World) (e : Ending) (w' : World) : Prop :=
  ∃ (A : Option Addr) (c : Nat), e = .returned (.tuple #[.slice A N c, .bool ok]) ∧ Ow w' w.heap.size 61 3 A N c (insC L) ∧ Below w.heap.size w w'
theorem fnExactTextBody_core (s : ByteArray) (L : List Ins3) (ok : Bool) (N : Nat) (w : World) (hs : (s.size : Int) ≤ 1048576) (HN : Hid (N ≤ 2097152)) (HLib : Hid (LibB w))
    (cS : Hid (∀ w, Calls Tryd.prog 12 #[.string s] w (BodyQ L ok N w))) (cI : Hid (∀ w, LibB w → Calls Tryd.prog 13 #[.string s] w (BodyQ L ok N w))) :
    Calls Tryd.prog 4 #[.string s] w fun e w' => e = .returned (.bool true) ∧ Below w.heap.size w w' := by
  have hok : (ok == ok) = true := by simp
  have hNb : (N : Int) ≤ 2097152 := by have := HN.out; omega
  go_enter Tryd.func4, Tryd.ntmps4
  go_wp2_with fail
  refine (cS.out w).mono ?_
  rintro e w1 ⟨A1, c1, rfl, ho, hb⟩
  have O1 := hide ho
  have B1 := hide hb
  clear ho hb
  go_wp2_with fail
  refine (cI.out w1 (libB_bel HLib.out B1.out)).mono ?_
  rintro e w2 ⟨A2, c2, rfl, ho, hb⟩
  have O2 := hide ho
  have O12 := hide (O1.out.below hb (Nat.le_refl _))
  have D2 := hide hb
  have B2 := hide (bel_step B1.out hb B1.out.size)
  clear ho hb
  go_wp2_with fail
  refine (eqInsS_b A2 A1 N c2 c1 L w2 O2.out.rd O12.out.rd HN.out).mono ?_
  rintro e w3 ⟨rfl, hb⟩
  have O23 := hide (O2.out.below hb (Nat.le_refl _))
  have D3 := hide (bel_step D2.out hb D2.out.size)
  have B3 := hide (bel_step B2.out hb B2.out.size)
  clear hb
  go_wp2_with fail
  refine (markInsS_m A2 N c2 w1.heap.size L 1 w3 O23.out HN.out (by omega) (by omega)).mono ?_
  rintro e w4 ⟨rfl, ho, hg⟩
  have P4 := hide ho
  have D4 := hide (bel_grown D3.out hg D3.out.size O23.out.ge)
  have B4 := hide (bel_grown B3.out hg B3.out.size (fun g hh => Nat.le_trans B1.out.size (O23.out.ge g hh)))
  clear ho hg
  go_wp2_with fail
  refine (heldInsS_c A2 N c2 1 w4 P4.out.rd HN.out (by omega) (by omega)).mono ?_
  rintro e w5 ⟨rfl, hw⟩
  subst hw
  go_wp2_with fail
  refine (cI.out w4 (libB_bel HLib.out B4.out)).mono ?_
  rintro e w6 ⟨A6, c6, rfl, ho, hb⟩
  have O6 := hide ho
  have P6 := hide (P4.out.below hb (Nat.le_refl _))
  have D6 := hide (bel_step D4.out hb D4.out.size)
  have B6 := hide (bel_step B4.out hb B4.out.size)
  clear ho hb
  go_wp2_with fail
  refine (eqInsS_b A6 A1 N c6 c1 L w6 O6.out.rd ((O1.out.below D6.out (Nat.le_refl _)).rd) HN.out).mono ?_
  rintro e w7 ⟨rfl, hb⟩
  have P7 := hide (P6.out.below hb (Nat.le_refl _))
  have B7 := hide (bel_step B6.out hb B6.out.size)
  clear hb
  go_wp2_with fail
  refine (heldInsS_c A2 N c2 1 w7 P7.out.rd HN.out (by omega) (by omega)).mono ?_
  rintro e w8 ⟨rfl, hw⟩
  subst hw
  go_wp2_with fail
  go_ret
  exact ⟨rfl, B7.out⟩
theorem fnExactTextBody_long (s : ByteArray) (w : World) (hs : 1048576 < (s.size : Int)) (hm : (s.size : Int) ≤ 9223372036854775807) :
    Calls Tryd.prog 4 #[.string s] w fun e w' => e = .returned (.bool true) ∧ Below w.heap.size w w' := by
  go_enter Tryd.func4, Tryd.ntmps4
  go_wp2_with fail
  go_ret
  exact ⟨rfl, Below.refl _ _⟩
theorem bodyP_len (s : ByteArray) (hs : s.size ≤ 1048576) : (bodyP s).1.length ≤ 2097152 := by
  have := cutW_len 59 s
  unfold bodyP
  split
  · simp
  · split
    · simp only [List.length_map]; omega
    · simp
theorem fnExactTextBody_walk (a0 : ByteArray) (w : World) (w0 : a0.size ≤ maxLen) (hL : laidMetH Tryd.prog Rows.fnExactTextBodyRow.laid w) (hsh : w.ShapedOpen Tryd.prog) :
    Calls Tryd.prog 4 #[.string a0] w fun e w' => e = .returned (.bool true) ∧ Below w.heap.size w w' := by
  by_cases hn : 1048576 < (a0.size : Int)
  · exact fnExactTextBody_long a0 w hn (by unfold maxLen at w0; omega)
  · have hs : a0.size ≤ 1048576 := by omega
    exact fnExactTextBody_core a0 (bodyP a0).1 (bodyP a0).2 (bodyP a0).1.length w (by omega) (hide (bodyP_len a0 hs)) (hide ⟨(tb_lib hL).1, (tb_lib hL).2, tb_num hsh⟩)
      (hide fun w => (sTextBody a0 w hs).mono fun e w' ⟨A, N, c, hN, he, ho, hb⟩ => by subst hN; exact ⟨A, c, he, ho, hb⟩)
      (hide fun w h => (iTextBody a0 w hs h).mono fun e w' ⟨A, N, c, hN, he, ho, hb⟩ => by subst hN; exact ⟨A, c, he, ho, hb⟩)
/-- the road to the row where the world's shape is asked too -/
theorem handed_shaped {H : Type} {enc : TypeId × Value → H} {a : Assume} {C : Checked} {os : Os} {f : FuncId} {fn : Func} {s : ChangeSpec} {conds : List PathCond} {apart fresh handsOn again : Bool} {X : World → Array Value → Prop}
    (hX : ∀ (w w' : World) (args : Array Value), w.heap = w'.heap → X w args → X w' args)
    (own : ownKnob C.prog.godebug = none) (started : os.Started) (noInit : C.prog.inits.idxOf? f = none) (hfn : C.prog.funcs[f]? = some fn)
    (witness : ∃ (w : World) (tape : Tape) (i : Input), w.os = os ∧ (w.forCall tape i).Shaped C.prog ∧ i.vars = [] ∧ Input.okWide C.prog (w.forCall tape i) .any w.heap.size f i ∧
      ((s.pre enc C.prog fn conds apart (w.forCall tape i).memory i.args ∧ X (w.forCall tape i).memory i.args) ∧ sizedMet enc C.prog fn (OpenSpec.ofChange s) apart (w.forCall tape i).memory i.args) ∧ a.holds C.prog (lone (Frame.enter C.prog f i.args .normal) [] (w.forCall tape i)))
    (walk : ∀ (W : World) (base : Nat) (args : Array Value) (ds gs : List (DataW H)) (before : List MemPlace),
      (∀ (j : Nat) t v, fn.params[j]? = some t → args[j]? = some v → Value.okWide C.prog W .any base t v) →
      DataW.Whole enc C.prog fn.params.toList s.vars apart W args.toList ds gs before →
      conds.all (PathCond.test C.prog ⟨fn.params.toList, ds, s.plain.varTypes C.prog, gs⟩) = true → X W args → W.ShapedOpen C.prog →
      Calls C.prog f args W fun e W' => ∃ v, e = .returned v ∧ s.post enc C.prog fn apart fresh handsOn again W args v W') :
    ReturnsInHanded a C os f .any (fun w args => (s.pre enc C.prog fn conds apart w args ∧ X w args) ∧ sizedMet enc C.prog fn (OpenSpec.ofChange s) apart w args) (s.post enc C.prog fn apart fresh handsOn again) := by
  refine returnsInHanded_of_calls own started noInit witness fun w tape i _ hsh _ hok hpre _ => ?_
  have hval := hok.2.2.2
  obtain ⟨fn', hfn', hrest⟩ := hval
  obtain rfl : fn' = fn := Option.some.inj (hfn'.symm.trans hfn)
  have hargs := hrest.2.2.2.2
  obtain ⟨⟨⟨ds, gs, before, hw, hc⟩, hx⟩, hz⟩ := hpre
  refine (walk (w.forCall tape i) w.heap.size i.args ds gs before hargs (DataW.Whole.of_heap (w' := w.forCall tape i) (by rfl) hw) hc (hX _ _ _ (by rfl) hx) hsh).mono fun e W' h => ?_
  obtain ⟨v, rfl, hp⟩ := h
  exact ChangeSpec.post_blind hp
end Go.Proofs.YtiinkfejdnfonaaDoor
