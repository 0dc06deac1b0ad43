/- What GetU and GetS read, in the program and in the reference: a contract each. -/
import Derived.Test.YtiinkfejdnfonaaGreatDoorNumC
import Derived.Test.YtiinkfejdnfonaaGreatDoorBytes
import Derived.Test.YtiinkfejdnfonaaGreatDoorLeb
namespace Go.Proofs.YtiinkfejdnfonaaGreatDoor.GetC
open Go.RowKit Go.Proofs.YtiinkfejdnfonaaGreatDoor.Num Go.Proofs.YtiinkfejdnfonaaGreatDoor.NumC Go.Proofs.YtiinkfejdnfonaaGreatDoor.Mem Go.Proofs.YtiinkfejdnfonaaGreatDoor.Leb

theorem within_t (x lo hi : Int) (w : World) (h : lo ≤ x) (h' : x ≤ hi) : Calls Tryz.prog 87 #[.int .i64 x, .int .i64 lo, .int .i64 hi] w fun e w' => e = .returned (.bool true) ∧ w = w' := by
  go_enter Tryz.func87, Tryz.ntmps87
  go_wp2_with fail
  go_ret
  exact ⟨rfl, rfl⟩
theorem within_f (x lo hi : Int) (w : World) (h : x < lo ∨ hi < x) : Calls Tryz.prog 87 #[.int .i64 x, .int .i64 lo, .int .i64 hi] w fun e w' => e = .returned (.bool false) ∧ w = w' := by
  by_cases h1 : x < lo
  · clear h
    go_enter Tryz.func87, Tryz.ntmps87
    go_wp2_with fail
    go_ret
    exact ⟨rfl, rfl⟩
  · have h2 : lo ≤ x := by omega
    have h3 : hi < x := by omega
    have h4 : decide (x ≤ hi) = false := by simp; omega
    clear h h1
    go_enter Tryz.func87, Tryz.ntmps87
    go_wp2_with fail
    go_ret
    exact ⟨rfl, rfl⟩

theorem ret3 {a b c d x y : Int} (h : a = b) (h' : c = d) (h'' : x = y) : Ending.returned (.tuple #[.int .i64 a, .int .i64 c, .int .i64 x]) = .returned (.tuple #[.int .i64 b, .int .i64 d, .int .i64 y]) := by rw [h, h', h'']
/-- the loop's relation: i pieces are read -/
def GR (bs : List Int) (a : Nat) (s i : Value) : Prop := ∃ (k : Nat) (y : Int), k ≤ 5 ∧ i = .int .i64 k ∧ s = .int .i64 y ∧ 0 ≤ y ∧ y < 34359738368 ∧ Hid (Got bs a k y)

theorem ret3b {a b c d : Int} {x y : Bool} (h : a = b) (h' : c = d) (h'' : x = y) : Ending.returned (.tuple #[.int .i64 a, .int .i64 c, .bool x]) = .returned (.tuple #[.int .i64 b, .int .i64 d, .bool y]) := by rw [h, h', h'']

/-- what GetU and GetS hand back -/
def Gives (r : Int × Int × Bool) (e : Ending) : Prop := e = .returned (.tuple #[.int .i64 r.1, .int .i64 r.2.1, .bool r.2.2])
theorem results_tmp4 {fn : Func} {t u v x : Tmp} (h : fn.results = #[.tmp t, .tmp u, .tmp v, .tmp x]) (tmps : Array Value) (P : Program) (w : World) :
    (results fn tmps).run P w = .ok (.tuple #[tmps.getD t undef, tmps.getD u undef, tmps.getD v undef, tmps.getD x undef]) w := by simp [results, h]
theorem ret4 {a b c d x y z u : Int} (h : a = b) (h' : c = d) (h'' : x = y) (h3 : z = u) : Ending.returned (.tuple #[.int .i64 a, .int .i64 c, .int .i64 x, .int .i64 z]) = .returned (.tuple #[.int .i64 b, .int .i64 d, .int .i64 y, .int .i64 u]) := by rw [h, h', h'', h3]
/-- the place behind -/
def pcN (bs : List Int) (a : Nat) : Int := if (pc bs a).2.2 = 0 then 0 else (a : Int) + ((pc bs a).2.2 : Nat)
end Go.Proofs.YtiinkfejdnfonaaGreatDoor.GetC
