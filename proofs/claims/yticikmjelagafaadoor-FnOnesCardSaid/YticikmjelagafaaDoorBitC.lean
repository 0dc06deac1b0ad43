/- What Bits and Compare compute, in the program and in the reference: a contract each. -/
import Derived.Test.YticikmjelagafaaDoorNumC
import Derived.Test.YticikmjelagafaaDoorBit
import Derived.Deep.QuietTactic
import Derived.BigQuiet
namespace Go.Proofs.YticikmjelagafaaDoor.BitC
open Go.RowKit Go.Proofs.YticikmjelagafaaDoor.Num Go.Proofs.YticikmjelagafaaDoor.NumC Go.Proofs.YticikmjelagafaaDoor.Bit

/-- the world is as it was but for draws -/
def Qt (w w' : World) : Prop := ∃ n, w' = w.drewN n
theorem Qt.refl (w : World) : Qt w w := ⟨0, rfl⟩
theorem Qt.below {w w' : World} (h : Qt w w') (B : Nat) : Below B w w' := by
  obtain ⟨n, rfl⟩ := h
  exact ⟨rfl, rfl, rfl, Nat.le_refl _, fun _ _ => rfl⟩
theorem quiet_left {P : Program} {f : FuncId} {args : Array Value} {w : World} {n : Nat} {v : Value}
    (h : Calls P f args (w.drewN n) fun e w' => e = .returned v ∧ w.drewN n = w') : Calls P f args (w.drewN n) fun e w'' => e = .returned v ∧ ∃ m, w'' = w.drewN m :=
  h.mono fun _ _ ⟨he, hm⟩ => ⟨he, n, hm.symm⟩

theorem rot_p (x : Nat) (k : Int) (w : World) (hx : x < 2 ^ 32) (hk : 0 ≤ k) (hk' : k ≤ 31) : Calls Tryd.prog 45 #[.int .u32 x, .int .i64 k] w fun e w' => e = .returned (.int .u32 (rotl x k.toNat : Nat)) ∧ w = w' := by
  have hb := mask31 k hk hk'
  have hx1 : (x : Int) ≤ 4294967295 := by omega
  have H := hide (u_rot x k.toNat hx (by omega))
  have H2 := hide (show (32 - k).toNat = 32 - k.toNat by omega)
  clear hx
  go_enter Tryd.func45, Tryd.ntmps45
  go_wp2
  go_ret
  exact ⟨ret_int (by rw [H2.out]; exact H.out), rfl⟩
theorem rot_n (x : Nat) (k : Int) (w : World) (hx : x < 2 ^ 32) (hk : -31 ≤ k) (hk' : k ≤ -1) : Calls Tryd.prog 45 #[.int .u32 x, .int .i64 k] w fun e w' => e = .returned (.int .u32 (rotl x (32 + k).toNat : Nat)) ∧ w = w' := by
  have hb := mask31_neg k hk hk'
  have hx1 : (x : Int) ≤ 4294967295 := by omega
  have H := hide (u_rot x (32 + k).toNat hx (by omega))
  have H2 := hide (show (32 - (32 + k)).toNat = 32 - (32 + k).toNat by omega)
  clear hx
  go_enter Tryd.func45, Tryd.ntmps45
  go_wp2
  go_ret
  exact ⟨ret_int (by rw [H2.out]; exact H.out), rfl⟩
theorem iBits1 (a b : Int) (w : World) : Calls Tryd.prog 24 #[.int .i64 1, .int .i64 a, .int .i64 b] w fun e w' => e = .returned (.int .i64 (bitsV 1 a b)) ∧ w = w' := by
  have ha := mod_bd a
  have hb := mod_bd b
  go_enter Tryd.func24, Tryd.ntmps24
  go_wp2_with fail
  go_ret
  exact ⟨ret_int (by rw [w64_w32, u_and]; exact V1 a b), rfl⟩
theorem iBits2 (a b : Int) (w : World) : Calls Tryd.prog 24 #[.int .i64 2, .int .i64 a, .int .i64 b] w fun e w' => e = .returned (.int .i64 (bitsV 2 a b)) ∧ w = w' := by
  have ha := mod_bd a
  have hb := mod_bd b
  go_enter Tryd.func24, Tryd.ntmps24
  go_wp2_with fail
  go_ret
  exact ⟨ret_int (by rw [w64_w32, u_or]; exact V2 a b), rfl⟩
theorem iBits3 (a b : Int) (w : World) : Calls Tryd.prog 24 #[.int .i64 3, .int .i64 a, .int .i64 b] w fun e w' => e = .returned (.int .i64 (bitsV 3 a b)) ∧ w = w' := by
  have ha := mod_bd a
  have hb := mod_bd b
  go_enter Tryd.func24, Tryd.ntmps24
  go_wp2_with fail
  go_ret
  exact ⟨ret_int (by rw [w64_w32, u_xor]; exact V3 a b), rfl⟩
theorem iBits4 (a b : Int) (w : World) : Calls Tryd.prog 24 #[.int .i64 4, .int .i64 a, .int .i64 b] w fun e w' => e = .returned (.int .i64 (bitsV 4 a b)) ∧ w = w' := by
  have ha := mod_bd a
  have hb := mod_bd b
  go_enter Tryd.func24, Tryd.ntmps24
  go_wp2_with fail
  go_ret
  exact ⟨ret_int (by rw [w64_w32, i_shl]; exact V4 a b), rfl⟩
theorem iBits5 (a b : Int) (w : World) : Calls Tryd.prog 24 #[.int .i64 5, .int .i64 a, .int .i64 b] w fun e w' => e = .returned (.int .i64 (bitsV 5 a b)) ∧ w = w' := by
  have ha := mod_bd a
  have hb := mod_bd b
  go_enter Tryd.func24, Tryd.ntmps24
  go_wp2_with (go_at_call 17; refine (iWrap _ _).mono ?_; rintro e w' ⟨rfl, rfl⟩)
  go_ret
  exact ⟨ret_int (by rw [kk]; exact V5 a b), rfl⟩
theorem iBits6 (a b : Int) (w : World) : Calls Tryd.prog 24 #[.int .i64 6, .int .i64 a, .int .i64 b] w fun e w' => e = .returned (.int .i64 (bitsV 6 a b)) ∧ w = w' := by
  have ha := mod_bd a
  have hb := mod_bd b
  go_enter Tryd.func24, Tryd.ntmps24
  go_wp2_with fail
  go_ret
  exact ⟨ret_int (by rw [w64_w32, c_shr]; exact V6 a b), rfl⟩
theorem iBits7 (a b : Int) (w : World) : Calls Tryd.prog 24 #[.int .i64 7, .int .i64 a, .int .i64 b] w fun e w' => e = .returned (.int .i64 (bitsV 7 a b)) ∧ w = w' := by
  have H := hide (pl_cast a)
  have H2 := hide (kk b)
  have hx := hide (pl_lt a)
  go_enter Tryd.func24, Tryd.ntmps24
  go_wp2_with fail
  rw [← H.out]
  refine (rot_p _ _ _ hx.out (by omega) (by omega)).mono ?_
  rintro e w' ⟨rfl, rfl⟩
  go_wp2_with fail
  go_ret
  exact ⟨ret_int (by rw [w64_w32, H2.out]; exact V7 a b), rfl⟩
theorem iBits8 (a b : Int) (w : World) : Calls Tryd.prog 24 #[.int .i64 8, .int .i64 a, .int .i64 b] w fun e w' => e = .returned (.int .i64 (bitsV 8 a b)) ∧ w = w' := by
  have H := hide (pl_cast a)
  have H2 := hide (kk b)
  have hx := hide (pl_lt a)
  by_cases h : b % 32 = 0
  · have h' := hide h
    clear h
    go_enter Tryd.func24, Tryd.ntmps24
    go_wp2_with fail
    rw [← H.out]
    refine (rot_p _ _ _ hx.out (by have := h'.out; omega) (by omega)).mono ?_
    rintro e w' ⟨rfl, rfl⟩
    go_wp2_with fail
    go_ret
    exact ⟨ret_int (by rw [w64_w32, show (-(b % 32)).toNat = (32 - pl b % 32) % 32 from by rw [← H2.out, h'.out]; rfl]; exact V8 a b), rfl⟩
  · have h' : 1 ≤ b % 32 := by omega
    clear h
    go_enter Tryd.func24, Tryd.ntmps24
    go_wp2_with fail
    rw [← H.out]
    refine (rot_n _ _ _ hx.out (by omega) (by omega)).mono ?_
    rintro e w' ⟨rfl, rfl⟩
    go_wp2_with fail
    go_ret
    exact ⟨ret_int (by rw [w64_w32, show (32 + -(b % 32)).toNat = (32 - pl b % 32) % 32 from by rw [← H2.out]; omega]; exact V8 a b), rfl⟩
theorem iBits0 (op a b : Int) (w : World) (h : op < 1 ∨ 8 < op) : Calls Tryd.prog 24 #[.int .i64 op, .int .i64 a, .int .i64 b] w fun e w' => e = .returned (.int .i64 (bitsV op a b)) ∧ w = w' := by
  have H : Hid (bitsV op a b = 0) := by
    unfold bitsV
    rw [if_neg (by omega), if_neg (by omega), if_neg (by omega), if_neg (by omega), if_neg (by omega), if_neg (by omega), if_neg (by omega), if_neg (by omega)]
    exact hide rfl
  have ha := mod_bd a
  have hb := mod_bd b
  go_enter Tryd.func24, Tryd.ntmps24
  go_wp2_with fail
  go_ret
  exact ⟨ret_int H.out.symm, rfl⟩
theorem iBits (op a b : Int) (w : World) : Calls Tryd.prog 24 #[.int .i64 op, .int .i64 a, .int .i64 b] w fun e w' => e = .returned (.int .i64 (bitsV op a b)) ∧ w = w' := by
  by_cases h : op < 1 ∨ 8 < op
  · exact iBits0 op a b w h
  · rcases (by omega : op = 1 ∨ op = 2 ∨ op = 3 ∨ op = 4 ∨ op = 5 ∨ op = 6 ∨ op = 7 ∨ op = 8) with rfl | rfl | rfl | rfl | rfl | rfl | rfl | rfl
    · exact iBits1 a b w
    · exact iBits2 a b w
    · exact iBits3 a b w
    · exact iBits4 a b w
    · exact iBits5 a b w
    · exact iBits6 a b w
    · exact iBits7 a b w
    · exact iBits8 a b w

/-- what Compare computes -/
def cmpV (op a b : Int) : Bool :=
  if op = 1 then decide (wrap32 a = wrap32 b)
  else if op = 2 then decide (wrap32 a ≠ wrap32 b)
  else if op = 3 then decide (wrap32 a < wrap32 b)
  else if op = 4 then decide (a % 4294967296 < b % 4294967296)
  else if op = 5 then decide (wrap32 b < wrap32 a)
  else if op = 6 then decide (b % 4294967296 < a % 4294967296)
  else if op = 7 then decide (wrap32 a ≤ wrap32 b)
  else if op = 8 then decide (a % 4294967296 ≤ b % 4294967296)
  else if op = 9 then decide (wrap32 b ≤ wrap32 a)
  else if op = 10 then decide (b % 4294967296 ≤ a % 4294967296)
  else false
theorem K1 (a b : Int) : decide (wrap32 a = wrap32 b) = cmpV 1 a b := by
  unfold cmpV
  rw [if_pos rfl]
theorem K2 (a b : Int) : decide (wrap32 a ≠ wrap32 b) = cmpV 2 a b := by
  unfold cmpV
  rw [if_neg (by omega), if_pos rfl]
theorem K3 (a b : Int) : decide (wrap32 a < wrap32 b) = cmpV 3 a b := by
  unfold cmpV
  rw [if_neg (by omega), if_neg (by omega), if_pos rfl]
theorem K4 (a b : Int) : decide (a % 4294967296 < b % 4294967296) = cmpV 4 a b := by
  unfold cmpV
  rw [if_neg (by omega), if_neg (by omega), if_neg (by omega), if_pos rfl]
theorem K5 (a b : Int) : decide (wrap32 b < wrap32 a) = cmpV 5 a b := by
  unfold cmpV
  rw [if_neg (by omega), if_neg (by omega), if_neg (by omega), if_neg (by omega), if_pos rfl]
theorem K6 (a b : Int) : decide (b % 4294967296 < a % 4294967296) = cmpV 6 a b := by
  unfold cmpV
  rw [if_neg (by omega), if_neg (by omega), if_neg (by omega), if_neg (by omega), if_neg (by omega), if_pos rfl]
theorem K7 (a b : Int) : decide (wrap32 a ≤ wrap32 b) = cmpV 7 a b := by
  unfold cmpV
  rw [if_neg (by omega), if_neg (by omega), if_neg (by omega), if_neg (by omega), if_neg (by omega), if_neg (by omega), if_pos rfl]
theorem K8 (a b : Int) : decide (a % 4294967296 ≤ b % 4294967296) = cmpV 8 a b := by
  unfold cmpV
  rw [if_neg (by omega), if_neg (by omega), if_neg (by omega), if_neg (by omega), if_neg (by omega), if_neg (by omega), if_neg (by omega), if_pos rfl]
theorem K9 (a b : Int) : decide (wrap32 b ≤ wrap32 a) = cmpV 9 a b := by
  unfold cmpV
  rw [if_neg (by omega), if_neg (by omega), if_neg (by omega), if_neg (by omega), if_neg (by omega), if_neg (by omega), if_neg (by omega), if_neg (by omega), if_pos rfl]
theorem K10 (a b : Int) : decide (b % 4294967296 ≤ a % 4294967296) = cmpV 10 a b := by
  unfold cmpV
  rw [if_neg (by omega), if_neg (by omega), if_neg (by omega), if_neg (by omega), if_neg (by omega), if_neg (by omega), if_neg (by omega), if_neg (by omega), if_neg (by omega), if_pos rfl]
theorem ret_bool {a b : Bool} (h : a = b) : Ending.returned (.bool a) = .returned (.bool b) := by rw [h]
end Go.Proofs.YticikmjelagafaaDoor.BitC
