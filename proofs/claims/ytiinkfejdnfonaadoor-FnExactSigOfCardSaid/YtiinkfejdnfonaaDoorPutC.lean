/- What PutU and PutS write, in the program and in the reference: a contract each. -/
import Derived.Test.YtiinkfejdnfonaaDoorNumC
import Derived.Test.YtiinkfejdnfonaaDoorBytes
import Derived.Test.YtiinkfejdnfonaaDoorLeb
namespace Go.Proofs.YtiinkfejdnfonaaDoor.PutC
open Go.RowKit Go.Proofs.YtiinkfejdnfonaaDoor.Num Go.Proofs.YtiinkfejdnfonaaDoor.NumC Go.Proofs.YtiinkfejdnfonaaDoor.Mem Go.Proofs.YtiinkfejdnfonaaDoor.Leb

theorem one8 (x : Int) : ∀ u ∈ (#[Value.int .u8 x] : Array Value).toList, u.oneCell' = true := by
  intro u hu
  simp only [List.mem_singleton] at hu
  subst hu
  rfl
theorem own_nil (w : World) (e size : Nat) : Ow w w.heap.size e size none 0 0 [] := World.ownsRow_nil w _ e size
theorem own_empty (w : World) (e size : Nat) : Ow (w.alloc (.cells #[] e)) w.heap.size e size (some ⟨w.heap.size, 0, none⟩) 0 0 [] := World.ownsRow_made w #[] 0 (Nat.le_refl _) (Nat.zero_le _) (by simp)

/-- the loop's relation: so many pieces are written, the rest is still to come -/
def PU (base n : Nat) (bs full : List Int) (v s : Value) (wr : World) : Prop :=
  ∃ (pre : List Int) (x : Int) (f : Nat) (A : Option Addr) (c : Nat), v = .slice A (n + pre.length) c ∧ s = .int .i64 x ∧ 0 ≤ x ∧ x ≤ 4294967295 ∧ Hid (x < lim f ∧ pre ++ putU (f + 1) x = full ∧ pre.length + f = 4) ∧
    Hid (Ow wr base 5 1 A (n + pre.length) c (by8 (bs ++ pre)))

/-- the same of a number with a sign -/
def PS (base n : Nat) (bs full : List Int) (v s : Value) (wr : World) : Prop :=
  ∃ (pre : List Int) (x : Int) (f : Nat) (A : Option Addr) (c : Nat), v = .slice A (n + pre.length) c ∧ s = .int .i64 x ∧ -2147483648 ≤ x ∧ x ≤ 2147483647 ∧ Hid (x < limS f ∧ -limS f ≤ x ∧ pre ++ putS (f + 1) x = full ∧ pre.length + f = 4) ∧
    Hid (Ow wr base 5 1 A (n + pre.length) c (by8 (bs ++ pre)))
theorem ps_end {n : Nat} {bs full pre : List Int} {x : Int} {f : Nat} (HX : Hid (x < limS f ∧ -limS f ≤ x ∧ pre ++ putS (f + 1) x = full ∧ pre.length + f = 4)) (h0 : -64 ≤ x) (h1 : x ≤ 63) : n + full.length = n + pre.length + 1 ∧ by8 (bs ++ full) = by8 (bs ++ pre) ++ [.int .u8 (x % 128)] := by
  have h := HX.out.2.2.1
  rw [putS_stop h0 h1] at h
  rw [← h]
  exact ⟨by simp; omega, by simp [by8]⟩
theorem ps_step {base n c : Nat} {bs full pre : List Int} {x : Int} {f : Nat} {A : Option Addr} {wr : World} (HX : Hid (x < limS f ∧ -limS f ≤ x ∧ pre ++ putS (f + 1) x = full ∧ pre.length + f = 4)) {q : Int} (hq : q = x / 128) (h : x < -64 ∨ 63 < x) (x0 : -2147483648 ≤ x) (x1 : x ≤ 2147483647)
    (ho : Ow wr base 5 1 A (n + pre.length + 1) c (by8 (bs ++ pre) ++ [.int .u8 (x % 128 + 128)])) : PS base n bs full (.slice A (n + pre.length + 1) c) (.int .i64 q) wr := by
  subst hq
  obtain ⟨h1, h2, h3, h4⟩ := HX.out
  obtain ⟨f', rfl⟩ : ∃ f', f = f' + 1 := by
    cases f with
    | zero =>
      have h5 : x < 64 := h1
      have h6 : -64 ≤ x := h2
      omega
    | succ f' => exact ⟨f', rfl⟩
  rw [putS_more h] at h3
  refine ⟨pre ++ [x % 128 + 128], x / 128, f', A, c, by simp [Nat.add_assoc], rfl, by omega, by omega, ⟨limS_div h1, limS_div' h2, by rw [List.append_assoc]; exact h3, by simp; omega⟩, ?_⟩
  have e1 : n + (pre ++ [x % 128 + 128]).length = n + pre.length + 1 := by simp; omega
  rw [e1]
  refine hide ?_
  simpa [by8] using ho

end Go.Proofs.YtiinkfejdnfonaaDoor.PutC
