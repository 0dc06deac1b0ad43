/- BodyBytes, in the program and in the reference: a contract each; the law on it, walked. -/
import Derived.Test.YtiinkfejdnfonaaDoorBbC
import Derived.Test.YtiinkfejdnfonaaDoorBodyL
namespace Go.Proofs.YtiinkfejdnfonaaDoor.Bb
open Go.RowKit Go.Proofs.YtiinkfejdnfonaaDoor.Num Go.Proofs.YtiinkfejdnfonaaDoor.NumC Go.Proofs.YtiinkfejdnfonaaDoor.Mem Go.Proofs.YtiinkfejdnfonaaDoor.Shape Go.Proofs.YtiinkfejdnfonaaDoor.Body Go.Proofs.YtiinkfejdnfonaaDoor.Ops Go.Proofs.YtiinkfejdnfonaaDoor.Leb
set_option linter.unusedVariables false
theorem allOk_c (A : Option Addr) (n c : Nat) (l : List Ins3) (w : World) (hr : Rd w w.heap.size 3 A n (insC l)) (hn : n ≤ 1048576) :
    Calls Tryd.prog 29 #[.slice A n c] w fun e w' => e = .returned (.bool (allOk l)) ∧ Below w.heap.size w w' := by
  have HI := hide (indexFunc_c A n c l w hr hn)
  have hc : Calls Tryd.prog 71 #[.slice A n c, .func (.func 72) #[] #[]] w fun e w' => e = .returned (.bool (!allOk l)) ∧ Below w.heap.size w w' := by
    obtain ⟨R, hR⟩ : ∃ R, allOk l = R := ⟨_, rfl⟩
    rw [hR] at HI ⊢
    clear hr hn hR
    go_enter Tryd.func71, Tryd.ntmps71
    go_wp2_with fail
    refine HI.out.mono ?_
    rintro e w1 ⟨⟨r, rfl, hk⟩, hb⟩
    go_wp2_with fail
    go_ret
    refine ⟨?_, hb⟩
    rw [← hk]
    rfl
  have HC := hide hc
  obtain ⟨R, hR⟩ : ∃ R, allOk l = R := ⟨_, rfl⟩
  rw [hR] at HC ⊢
  clear hr hn hR hc HI
  go_enter Tryd.func29, Tryd.ntmps29
  go_wp2_with fail
  refine HC.out.mono ?_
  rintro e w1 ⟨rfl, hb⟩
  go_wp2_with fail
  go_ret
  exact ⟨by cases R <;> rfl, hb⟩
def full (l : List Ins3) : List Int := if allOk l then bodyB l else []
theorem own_nilB (w : World) (e size : Nat) : Ow w w.heap.size e size none 0 0 [] := World.ownsRow_nil w _ e size
theorem own_emptyB (w : World) (e size : Nat) : Ow (w.alloc (.cells #[] e)) w.heap.size e size (some ⟨w.heap.size, 0, none⟩) 0 0 [] := World.ownsRow_made w #[] 0 (Nat.le_refl _) (Nat.zero_le _) (by simp)
theorem one8all (bs : List Int) : ∀ u ∈ by8 bs, u.oneCell' = true := ints_oneCell _ bs
/-- the bytes of the first k instructions, as a row -/
def BR (base : Nat) (l : List Ins3) (k N : Nat) (As : Option Addr) (cs : Nat) (wr : World) : Prop := N = (bodyB (l.take k)).length ∧ Ow wr base 5 1 As N cs (by8 (bodyB (l.take k)))
end Go.Proofs.YtiinkfejdnfonaaDoor.Bb
