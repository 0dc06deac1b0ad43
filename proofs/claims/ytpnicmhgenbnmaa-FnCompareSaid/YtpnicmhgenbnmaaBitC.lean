/- What Bits and Compare compute, in the program and in the reference: a contract each. -/
import Derived.Test.YtpnicmhgenbnmaaNumC
import Derived.Test.YtpnicmhgenbnmaaBit
import Derived.Deep.QuietTactic
import Derived.BigQuiet
namespace Go.Proofs.Ytpnicmhgenbnmaa.BitC
open Go.RowKit Go.Proofs.Ytpnicmhgenbnmaa.Num Go.Proofs.Ytpnicmhgenbnmaa.NumC Go.Proofs.Ytpnicmhgenbnmaa.Bit

/-- the world is as it was but for draws -/
def Qt (w w' : World) : Prop := ∃ n, w' = w.drewN n
theorem Qt.refl (w : World) : Qt w w := ⟨0, rfl⟩
theorem Qt.below {w w' : World} (h : Qt w w') (B : Nat) : Below B w w' := by
  obtain ⟨n, rfl⟩ := h
  exact ⟨rfl, rfl, rfl, Nat.le_refl _, fun _ _ => rfl⟩
theorem quiet_left {P : Program} {f : FuncId} {args : Array Value} {w : World} {n : Nat} {v : Value}
    (h : Calls P f args (w.drewN n) fun e w' => e = .returned v ∧ w.drewN n = w') : Calls P f args (w.drewN n) fun e w'' => e = .returned v ∧ ∃ m, w'' = w.drewN m :=
  h.mono fun _ _ ⟨he, hm⟩ => ⟨he, n, hm.symm⟩

theorem rot_p (x : Nat) (k : Int) (w : World) (hx : x < 2 ^ 32) (hk : 0 ≤ k) (hk' : k ≤ 31) : Calls Try.prog 54 #[.int .u32 x, .int .i64 k] w fun e w' => e = .returned (.int .u32 (rotl x k.toNat : Nat)) ∧ w = w' := by
  have hb := mask31 k hk hk'
  have hx1 : (x : Int) ≤ 4294967295 := by omega
  have H := hide (u_rot x k.toNat hx (by omega))
  have H2 := hide (show (32 - k).toNat = 32 - k.toNat by omega)
  clear hx
  go_enter Try.func54, Try.ntmps54
  go_wp2
  go_ret
  exact ⟨ret_int (by rw [H2.out]; exact H.out), rfl⟩
theorem rot_n (x : Nat) (k : Int) (w : World) (hx : x < 2 ^ 32) (hk : -31 ≤ k) (hk' : k ≤ -1) : Calls Try.prog 54 #[.int .u32 x, .int .i64 k] w fun e w' => e = .returned (.int .u32 (rotl x (32 + k).toNat : Nat)) ∧ w = w' := by
  have hb := mask31_neg k hk hk'
  have hx1 : (x : Int) ≤ 4294967295 := by omega
  have H := hide (u_rot x (32 + k).toNat hx (by omega))
  have H2 := hide (show (32 - (32 + k)).toNat = 32 - (32 + k).toNat by omega)
  clear hx
  go_enter Try.func54, Try.ntmps54
  go_wp2
  go_ret
  exact ⟨ret_int (by rw [H2.out]; exact H.out), rfl⟩
theorem iBits1 (a b : Int) (w : World) : Calls Try.prog 22 #[.int .i64 1, .int .i64 a, .int .i64 b] w fun e w' => e = .returned (.int .i64 (bitsV 1 a b)) ∧ w = w' := by
  have ha := mod_bd a
  have hb := mod_bd b
  go_enter Try.func22, Try.ntmps22
  go_wp2_with fail
  go_ret
  exact ⟨ret_int (by rw [w64_w32, u_and]; exact V1 a b), rfl⟩
theorem iBits2 (a b : Int) (w : World) : Calls Try.prog 22 #[.int .i64 2, .int .i64 a, .int .i64 b] w fun e w' => e = .returned (.int .i64 (bitsV 2 a b)) ∧ w = w' := by
  have ha := mod_bd a
  have hb := mod_bd b
  go_enter Try.func22, Try.ntmps22
  go_wp2_with fail
  go_ret
  exact ⟨ret_int (by rw [w64_w32, u_or]; exact V2 a b), rfl⟩
theorem iBits3 (a b : Int) (w : World) : Calls Try.prog 22 #[.int .i64 3, .int .i64 a, .int .i64 b] w fun e w' => e = .returned (.int .i64 (bitsV 3 a b)) ∧ w = w' := by
  have ha := mod_bd a
  have hb := mod_bd b
  go_enter Try.func22, Try.ntmps22
  go_wp2_with fail
  go_ret
  exact ⟨ret_int (by rw [w64_w32, u_xor]; exact V3 a b), rfl⟩
theorem iBits4 (a b : Int) (w : World) : Calls Try.prog 22 #[.int .i64 4, .int .i64 a, .int .i64 b] w fun e w' => e = .returned (.int .i64 (bitsV 4 a b)) ∧ w = w' := by
  have ha := mod_bd a
  have hb := mod_bd b
  go_enter Try.func22, Try.ntmps22
  go_wp2_with fail
  go_ret
  exact ⟨ret_int (by rw [w64_w32, i_shl]; exact V4 a b), rfl⟩
theorem iBits5 (a b : Int) (w : World) : Calls Try.prog 22 #[.int .i64 5, .int .i64 a, .int .i64 b] w fun e w' => e = .returned (.int .i64 (bitsV 5 a b)) ∧ w = w' := by
  have ha := mod_bd a
  have hb := mod_bd b
  go_enter Try.func22, Try.ntmps22
  go_wp2_with (go_at_call 30; refine (iWrap _ _).mono ?_; rintro e w' ⟨rfl, rfl⟩)
  go_ret
  exact ⟨ret_int (by rw [kk]; exact V5 a b), rfl⟩
theorem iBits6 (a b : Int) (w : World) : Calls Try.prog 22 #[.int .i64 6, .int .i64 a, .int .i64 b] w fun e w' => e = .returned (.int .i64 (bitsV 6 a b)) ∧ w = w' := by
  have ha := mod_bd a
  have hb := mod_bd b
  go_enter Try.func22, Try.ntmps22
  go_wp2_with fail
  go_ret
  exact ⟨ret_int (by rw [w64_w32, c_shr]; exact V6 a b), rfl⟩
theorem iBits7 (a b : Int) (w : World) : Calls Try.prog 22 #[.int .i64 7, .int .i64 a, .int .i64 b] w fun e w' => e = .returned (.int .i64 (bitsV 7 a b)) ∧ w = w' := by
  have H := hide (pl_cast a)
  have H2 := hide (kk b)
  have hx := hide (pl_lt a)
  go_enter Try.func22, Try.ntmps22
  go_wp2_with fail
  rw [← H.out]
  refine (rot_p _ _ _ hx.out (by omega) (by omega)).mono ?_
  rintro e w' ⟨rfl, rfl⟩
  go_wp2_with fail
  go_ret
  exact ⟨ret_int (by rw [w64_w32, H2.out]; exact V7 a b), rfl⟩
theorem iBits8 (a b : Int) (w : World) : Calls Try.prog 22 #[.int .i64 8, .int .i64 a, .int .i64 b] w fun e w' => e = .returned (.int .i64 (bitsV 8 a b)) ∧ w = w' := by
  have H := hide (pl_cast a)
  have H2 := hide (kk b)
  have hx := hide (pl_lt a)
  by_cases h : b % 32 = 0
  · have h' := hide h
    clear h
    go_enter Try.func22, Try.ntmps22
    go_wp2_with fail
    rw [← H.out]
    refine (rot_p _ _ _ hx.out (by have := h'.out; omega) (by omega)).mono ?_
    rintro e w' ⟨rfl, rfl⟩
    go_wp2_with fail
    go_ret
    exact ⟨ret_int (by rw [w64_w32, show (-(b % 32)).toNat = (32 - pl b % 32) % 32 from by rw [← H2.out, h'.out]; rfl]; exact V8 a b), rfl⟩
  · have h' : 1 ≤ b % 32 := by omega
    clear h
    go_enter Try.func22, Try.ntmps22
    go_wp2_with fail
    rw [← H.out]
    refine (rot_n _ _ _ hx.out (by omega) (by omega)).mono ?_
    rintro e w' ⟨rfl, rfl⟩
    go_wp2_with fail
    go_ret
    exact ⟨ret_int (by rw [w64_w32, show (32 + -(b % 32)).toNat = (32 - pl b % 32) % 32 from by rw [← H2.out]; omega]; exact V8 a b), rfl⟩
theorem iBits0 (op a b : Int) (w : World) (h : op < 1 ∨ 8 < op) : Calls Try.prog 22 #[.int .i64 op, .int .i64 a, .int .i64 b] w fun e w' => e = .returned (.int .i64 (bitsV op a b)) ∧ w = w' := by
  have H : Hid (bitsV op a b = 0) := by
    unfold bitsV
    rw [if_neg (by omega), if_neg (by omega), if_neg (by omega), if_neg (by omega), if_neg (by omega), if_neg (by omega), if_neg (by omega), if_neg (by omega)]
    exact hide rfl
  have ha := mod_bd a
  have hb := mod_bd b
  go_enter Try.func22, Try.ntmps22
  go_wp2_with fail
  go_ret
  exact ⟨ret_int H.out.symm, rfl⟩
theorem iBits (op a b : Int) (w : World) : Calls Try.prog 22 #[.int .i64 op, .int .i64 a, .int .i64 b] w fun e w' => e = .returned (.int .i64 (bitsV op a b)) ∧ w = w' := by
  by_cases h : op < 1 ∨ 8 < op
  · exact iBits0 op a b w h
  · rcases (by omega : op = 1 ∨ op = 2 ∨ op = 3 ∨ op = 4 ∨ op = 5 ∨ op = 6 ∨ op = 7 ∨ op = 8) with rfl | rfl | rfl | rfl | rfl | rfl | rfl | rfl
    · exact iBits1 a b w
    · exact iBits2 a b w
    · exact iBits3 a b w
    · exact iBits4 a b w
    · exact iBits5 a b w
    · exact iBits6 a b w
    · exact iBits7 a b w
    · exact iBits8 a b w

theorem sBits1 (a b : Int) (w : World) : Calls Try.prog 21 #[.int .i64 1, .int .i64 a, .int .i64 b] w fun e w' => e = .returned (.int .i64 (bitsV 1 a b)) ∧ w = w' := by
  have ha := mod_bd a
  have hb := mod_bd b
  go_enter Try.func21, Try.ntmps21
  go_wp2_with (first | (go_at_call 53; refine (sPlain _ _).mono ?_; rintro e w' ⟨rfl, rfl⟩) | (go_at_call 52; refine (sWrap _ _).mono ?_; rintro e w' ⟨rfl, rfl⟩))
  go_ret
  exact ⟨ret_int (by rw [s_and]; exact V1 a b), rfl⟩
theorem sBits2 (a b : Int) (w : World) : Calls Try.prog 21 #[.int .i64 2, .int .i64 a, .int .i64 b] w fun e w' => e = .returned (.int .i64 (bitsV 2 a b)) ∧ w = w' := by
  have ha := mod_bd a
  have hb := mod_bd b
  go_enter Try.func21, Try.ntmps21
  go_wp2_with (first | (go_at_call 53; refine (sPlain _ _).mono ?_; rintro e w' ⟨rfl, rfl⟩) | (go_at_call 52; refine (sWrap _ _).mono ?_; rintro e w' ⟨rfl, rfl⟩))
  go_ret
  exact ⟨ret_int (by rw [s_or]; exact V2 a b), rfl⟩
theorem sBits3 (a b : Int) (w : World) : Calls Try.prog 21 #[.int .i64 3, .int .i64 a, .int .i64 b] w fun e w' => e = .returned (.int .i64 (bitsV 3 a b)) ∧ w = w' := by
  have ha := mod_bd a
  have hb := mod_bd b
  go_enter Try.func21, Try.ntmps21
  go_wp2_with (first | (go_at_call 53; refine (sPlain _ _).mono ?_; rintro e w' ⟨rfl, rfl⟩) | (go_at_call 52; refine (sWrap _ _).mono ?_; rintro e w' ⟨rfl, rfl⟩))
  go_ret
  exact ⟨ret_int (by rw [s_xor]; exact V3 a b), rfl⟩
theorem sBits4 (a b : Int) (w : World) : Calls Try.prog 21 #[.int .i64 4, .int .i64 a, .int .i64 b] w fun e w' => e = .returned (.int .i64 (bitsV 4 a b)) ∧ w = w' := by
  have ha := mod_bd a
  have hb := mod_bd b
  go_enter Try.func21, Try.ntmps21
  go_wp2_with (first | (go_at_call 53; refine (sPlain _ _).mono ?_; rintro e w' ⟨rfl, rfl⟩) | (go_at_call 52; refine (sWrap _ _).mono ?_; rintro e w' ⟨rfl, rfl⟩))
  go_ret
  exact ⟨ret_int (by rw [s_shl]; exact V4 a b), rfl⟩
theorem sBits5 (a b : Int) (w : World) : Calls Try.prog 21 #[.int .i64 5, .int .i64 a, .int .i64 b] w fun e w' => e = .returned (.int .i64 (bitsV 5 a b)) ∧ w = w' := by
  have ha := mod_bd a
  have hb := mod_bd b
  go_enter Try.func21, Try.ntmps21
  go_wp2_with (first | (go_at_call 53; refine (sPlain _ _).mono ?_; rintro e w' ⟨rfl, rfl⟩) | (go_at_call 52; refine (sWrap _ _).mono ?_; rintro e w' ⟨rfl, rfl⟩))
  go_ret
  exact ⟨ret_int (by rw [s_sar]; exact V5 a b), rfl⟩
theorem sBits6 (a b : Int) (w : World) : Calls Try.prog 21 #[.int .i64 6, .int .i64 a, .int .i64 b] w fun e w' => e = .returned (.int .i64 (bitsV 6 a b)) ∧ w = w' := by
  have ha := mod_bd a
  have hb := mod_bd b
  go_enter Try.func21, Try.ntmps21
  go_wp2_with (first | (go_at_call 53; refine (sPlain _ _).mono ?_; rintro e w' ⟨rfl, rfl⟩) | (go_at_call 52; refine (sWrap _ _).mono ?_; rintro e w' ⟨rfl, rfl⟩))
  go_ret
  exact ⟨ret_int (by rw [c_shr]; exact V6 a b), rfl⟩
theorem sBits7 (a b : Int) (w : World) : Calls Try.prog 21 #[.int .i64 7, .int .i64 a, .int .i64 b] w fun e w' => e = .returned (.int .i64 (bitsV 7 a b)) ∧ Qt w w' := by
  have ha := mod_bd a
  have hb := mod_bd b
  go_enter Try.func21, Try.ntmps21
  go_wp2_with (first | (go_at_call 53; refine (sPlain _ _).mono ?_; rintro e w' ⟨rfl, rfl⟩) | (go_at_call 52; refine (sWrap _ _).mono ?_; rintro e w' ⟨rfl, rfl⟩))
  go_quiet ((go_at_call 52; exact quiet_left (sWrap _ _)))
  go_wp2
  go_ret
  refine ⟨ret_int (by rw [s_rotl]; exact V7 a b), ?_⟩
  exact ⟨_, rfl⟩
theorem sBits8 (a b : Int) (w : World) : Calls Try.prog 21 #[.int .i64 8, .int .i64 a, .int .i64 b] w fun e w' => e = .returned (.int .i64 (bitsV 8 a b)) ∧ Qt w w' := by
  have ha := mod_bd a
  have hb := mod_bd b
  go_enter Try.func21, Try.ntmps21
  go_wp2_with (first | (go_at_call 53; refine (sPlain _ _).mono ?_; rintro e w' ⟨rfl, rfl⟩) | (go_at_call 52; refine (sWrap _ _).mono ?_; rintro e w' ⟨rfl, rfl⟩))
  go_quiet ((go_at_call 52; exact quiet_left (sWrap _ _)))
  go_wp2
  go_ret
  refine ⟨ret_int (by rw [s_rotr]; exact V8 a b), ?_⟩
  exact ⟨_, rfl⟩
theorem sBits0 (op a b : Int) (w : World) (h : op < 1 ∨ 8 < op) : Calls Try.prog 21 #[.int .i64 op, .int .i64 a, .int .i64 b] w fun e w' => e = .returned (.int .i64 (bitsV op a b)) ∧ w = w' := by
  have H : Hid (bitsV op a b = 0) := by
    unfold bitsV
    rw [if_neg (by omega), if_neg (by omega), if_neg (by omega), if_neg (by omega), if_neg (by omega), if_neg (by omega), if_neg (by omega), if_neg (by omega)]
    exact hide rfl
  have ha := mod_bd a
  have hb := mod_bd b
  go_enter Try.func21, Try.ntmps21
  go_wp2_with (first | (go_at_call 53; refine (sPlain _ _).mono ?_; rintro e w' ⟨rfl, rfl⟩) | (go_at_call 52; refine (sWrap _ _).mono ?_; rintro e w' ⟨rfl, rfl⟩))
  go_ret
  exact ⟨ret_int H.out.symm, rfl⟩
theorem sBits (op a b : Int) (w : World) : Calls Try.prog 21 #[.int .i64 op, .int .i64 a, .int .i64 b] w fun e w' => e = .returned (.int .i64 (bitsV op a b)) ∧ Qt w w' := by
  have z : ∀ {e : Ending} {w' : World} {r : Ending}, (e = r ∧ w = w') → (e = r ∧ Qt w w') := fun ⟨h1, h2⟩ => ⟨h1, h2 ▸ Qt.refl w⟩
  by_cases h : op < 1 ∨ 8 < op
  · exact (sBits0 op a b w h).mono fun _ _ => z
  · rcases (by omega : op = 1 ∨ op = 2 ∨ op = 3 ∨ op = 4 ∨ op = 5 ∨ op = 6 ∨ op = 7 ∨ op = 8) with rfl | rfl | rfl | rfl | rfl | rfl | rfl | rfl
    · exact (sBits1 a b w).mono fun _ _ => z
    · exact (sBits2 a b w).mono fun _ _ => z
    · exact (sBits3 a b w).mono fun _ _ => z
    · exact (sBits4 a b w).mono fun _ _ => z
    · exact (sBits5 a b w).mono fun _ _ => z
    · exact (sBits6 a b w).mono fun _ _ => z
    · exact sBits7 a b w
    · exact sBits8 a b w
/-- what Compare computes -/
def cmpV (op a b : Int) : Bool :=
  if op = 1 then decide (wrap32 a = wrap32 b)
  else if op = 2 then decide (wrap32 a ≠ wrap32 b)
  else if op = 3 then decide (wrap32 a < wrap32 b)
  else if op = 4 then decide (a % 4294967296 < b % 4294967296)
  else if op = 5 then decide (wrap32 b < wrap32 a)
  else if op = 6 then decide (b % 4294967296 < a % 4294967296)
  else if op = 7 then decide (wrap32 a ≤ wrap32 b)
  else if op = 8 then decide (a % 4294967296 ≤ b % 4294967296)
  else if op = 9 then decide (wrap32 b ≤ wrap32 a)
  else if op = 10 then decide (b % 4294967296 ≤ a % 4294967296)
  else false
theorem K1 (a b : Int) : decide (wrap32 a = wrap32 b) = cmpV 1 a b := by
  unfold cmpV
  rw [if_pos rfl]
theorem K2 (a b : Int) : decide (wrap32 a ≠ wrap32 b) = cmpV 2 a b := by
  unfold cmpV
  rw [if_neg (by omega), if_pos rfl]
theorem K3 (a b : Int) : decide (wrap32 a < wrap32 b) = cmpV 3 a b := by
  unfold cmpV
  rw [if_neg (by omega), if_neg (by omega), if_pos rfl]
theorem K4 (a b : Int) : decide (a % 4294967296 < b % 4294967296) = cmpV 4 a b := by
  unfold cmpV
  rw [if_neg (by omega), if_neg (by omega), if_neg (by omega), if_pos rfl]
theorem K5 (a b : Int) : decide (wrap32 b < wrap32 a) = cmpV 5 a b := by
  unfold cmpV
  rw [if_neg (by omega), if_neg (by omega), if_neg (by omega), if_neg (by omega), if_pos rfl]
theorem K6 (a b : Int) : decide (b % 4294967296 < a % 4294967296) = cmpV 6 a b := by
  unfold cmpV
  rw [if_neg (by omega), if_neg (by omega), if_neg (by omega), if_neg (by omega), if_neg (by omega), if_pos rfl]
theorem K7 (a b : Int) : decide (wrap32 a ≤ wrap32 b) = cmpV 7 a b := by
  unfold cmpV
  rw [if_neg (by omega), if_neg (by omega), if_neg (by omega), if_neg (by omega), if_neg (by omega), if_neg (by omega), if_pos rfl]
theorem K8 (a b : Int) : decide (a % 4294967296 ≤ b % 4294967296) = cmpV 8 a b := by
  unfold cmpV
  rw [if_neg (by omega), if_neg (by omega), if_neg (by omega), if_neg (by omega), if_neg (by omega), if_neg (by omega), if_neg (by omega), if_pos rfl]
theorem K9 (a b : Int) : decide (wrap32 b ≤ wrap32 a) = cmpV 9 a b := by
  unfold cmpV
  rw [if_neg (by omega), if_neg (by omega), if_neg (by omega), if_neg (by omega), if_neg (by omega), if_neg (by omega), if_neg (by omega), if_neg (by omega), if_pos rfl]
theorem K10 (a b : Int) : decide (b % 4294967296 ≤ a % 4294967296) = cmpV 10 a b := by
  unfold cmpV
  rw [if_neg (by omega), if_neg (by omega), if_neg (by omega), if_neg (by omega), if_neg (by omega), if_neg (by omega), if_neg (by omega), if_neg (by omega), if_neg (by omega), if_pos rfl]
theorem ret_bool {a b : Bool} (h : a = b) : Ending.returned (.bool a) = .returned (.bool b) := by rw [h]
theorem iCmp1 (a b : Int) (w : World) : Calls Try.prog 24 #[.int .i64 1, .int .i64 a, .int .i64 b] w fun e w' => e = .returned (.bool (cmpV 1 a b)) ∧ w = w' := by
  have H := hide (K1 a b)
  go_enter Try.func24, Try.ntmps24
  go_wp2_with (first | (go_at_call 32; refine (iPlain _ _).mono ?_; rintro e w' ⟨rfl, rfl⟩) | (go_at_call 30; refine (iWrap _ _).mono ?_; rintro e w' ⟨rfl, rfl⟩))
  go_ret
  exact ⟨ret_bool (by first | exact H.out | (rw [← H.out, Bool.eq_iff_iff]; simp; done)), rfl⟩
theorem iCmp2 (a b : Int) (w : World) : Calls Try.prog 24 #[.int .i64 2, .int .i64 a, .int .i64 b] w fun e w' => e = .returned (.bool (cmpV 2 a b)) ∧ w = w' := by
  have H := hide (K2 a b)
  go_enter Try.func24, Try.ntmps24
  go_wp2_with (first | (go_at_call 32; refine (iPlain _ _).mono ?_; rintro e w' ⟨rfl, rfl⟩) | (go_at_call 30; refine (iWrap _ _).mono ?_; rintro e w' ⟨rfl, rfl⟩))
  go_ret
  exact ⟨ret_bool (by first | exact H.out | (rw [← H.out, Bool.eq_iff_iff]; simp; done)), rfl⟩
theorem iCmp3 (a b : Int) (w : World) : Calls Try.prog 24 #[.int .i64 3, .int .i64 a, .int .i64 b] w fun e w' => e = .returned (.bool (cmpV 3 a b)) ∧ w = w' := by
  have H := hide (K3 a b)
  go_enter Try.func24, Try.ntmps24
  go_wp2_with (first | (go_at_call 32; refine (iPlain _ _).mono ?_; rintro e w' ⟨rfl, rfl⟩) | (go_at_call 30; refine (iWrap _ _).mono ?_; rintro e w' ⟨rfl, rfl⟩))
  go_ret
  exact ⟨ret_bool (by first | exact H.out | (rw [← H.out, Bool.eq_iff_iff]; simp; done)), rfl⟩
theorem iCmp4 (a b : Int) (w : World) : Calls Try.prog 24 #[.int .i64 4, .int .i64 a, .int .i64 b] w fun e w' => e = .returned (.bool (cmpV 4 a b)) ∧ w = w' := by
  have H := hide (K4 a b)
  go_enter Try.func24, Try.ntmps24
  go_wp2_with (first | (go_at_call 32; refine (iPlain _ _).mono ?_; rintro e w' ⟨rfl, rfl⟩) | (go_at_call 30; refine (iWrap _ _).mono ?_; rintro e w' ⟨rfl, rfl⟩))
  go_ret
  exact ⟨ret_bool (by first | exact H.out | (rw [← H.out, Bool.eq_iff_iff]; simp; done)), rfl⟩
theorem iCmp5 (a b : Int) (w : World) : Calls Try.prog 24 #[.int .i64 5, .int .i64 a, .int .i64 b] w fun e w' => e = .returned (.bool (cmpV 5 a b)) ∧ w = w' := by
  have H := hide (K5 a b)
  go_enter Try.func24, Try.ntmps24
  go_wp2_with (first | (go_at_call 32; refine (iPlain _ _).mono ?_; rintro e w' ⟨rfl, rfl⟩) | (go_at_call 30; refine (iWrap _ _).mono ?_; rintro e w' ⟨rfl, rfl⟩))
  go_ret
  exact ⟨ret_bool (by first | exact H.out | (rw [← H.out, Bool.eq_iff_iff]; simp; done)), rfl⟩
theorem iCmp6 (a b : Int) (w : World) : Calls Try.prog 24 #[.int .i64 6, .int .i64 a, .int .i64 b] w fun e w' => e = .returned (.bool (cmpV 6 a b)) ∧ w = w' := by
  have H := hide (K6 a b)
  go_enter Try.func24, Try.ntmps24
  go_wp2_with (first | (go_at_call 32; refine (iPlain _ _).mono ?_; rintro e w' ⟨rfl, rfl⟩) | (go_at_call 30; refine (iWrap _ _).mono ?_; rintro e w' ⟨rfl, rfl⟩))
  go_ret
  exact ⟨ret_bool (by first | exact H.out | (rw [← H.out, Bool.eq_iff_iff]; simp; done)), rfl⟩
theorem iCmp7 (a b : Int) (w : World) : Calls Try.prog 24 #[.int .i64 7, .int .i64 a, .int .i64 b] w fun e w' => e = .returned (.bool (cmpV 7 a b)) ∧ w = w' := by
  have H := hide (K7 a b)
  go_enter Try.func24, Try.ntmps24
  go_wp2_with (first | (go_at_call 32; refine (iPlain _ _).mono ?_; rintro e w' ⟨rfl, rfl⟩) | (go_at_call 30; refine (iWrap _ _).mono ?_; rintro e w' ⟨rfl, rfl⟩))
  go_ret
  exact ⟨ret_bool (by first | exact H.out | (rw [← H.out, Bool.eq_iff_iff]; simp; done)), rfl⟩
theorem iCmp8 (a b : Int) (w : World) : Calls Try.prog 24 #[.int .i64 8, .int .i64 a, .int .i64 b] w fun e w' => e = .returned (.bool (cmpV 8 a b)) ∧ w = w' := by
  have H := hide (K8 a b)
  go_enter Try.func24, Try.ntmps24
  go_wp2_with (first | (go_at_call 32; refine (iPlain _ _).mono ?_; rintro e w' ⟨rfl, rfl⟩) | (go_at_call 30; refine (iWrap _ _).mono ?_; rintro e w' ⟨rfl, rfl⟩))
  go_ret
  exact ⟨ret_bool (by first | exact H.out | (rw [← H.out, Bool.eq_iff_iff]; simp; done)), rfl⟩
theorem iCmp9 (a b : Int) (w : World) : Calls Try.prog 24 #[.int .i64 9, .int .i64 a, .int .i64 b] w fun e w' => e = .returned (.bool (cmpV 9 a b)) ∧ w = w' := by
  have H := hide (K9 a b)
  go_enter Try.func24, Try.ntmps24
  go_wp2_with (first | (go_at_call 32; refine (iPlain _ _).mono ?_; rintro e w' ⟨rfl, rfl⟩) | (go_at_call 30; refine (iWrap _ _).mono ?_; rintro e w' ⟨rfl, rfl⟩))
  go_ret
  exact ⟨ret_bool (by first | exact H.out | (rw [← H.out, Bool.eq_iff_iff]; simp; done)), rfl⟩
theorem iCmp10 (a b : Int) (w : World) : Calls Try.prog 24 #[.int .i64 10, .int .i64 a, .int .i64 b] w fun e w' => e = .returned (.bool (cmpV 10 a b)) ∧ w = w' := by
  have H := hide (K10 a b)
  go_enter Try.func24, Try.ntmps24
  go_wp2_with (first | (go_at_call 32; refine (iPlain _ _).mono ?_; rintro e w' ⟨rfl, rfl⟩) | (go_at_call 30; refine (iWrap _ _).mono ?_; rintro e w' ⟨rfl, rfl⟩))
  go_ret
  exact ⟨ret_bool (by first | exact H.out | (rw [← H.out, Bool.eq_iff_iff]; simp; done)), rfl⟩
theorem iCmp0 (op a b : Int) (w : World) (h : op < 1 ∨ 10 < op) : Calls Try.prog 24 #[.int .i64 op, .int .i64 a, .int .i64 b] w fun e w' => e = .returned (.bool (cmpV op a b)) ∧ w = w' := by
  have H : Hid (cmpV op a b = false) := by
    unfold cmpV
    rw [if_neg (by omega), if_neg (by omega), if_neg (by omega), if_neg (by omega), if_neg (by omega), if_neg (by omega), if_neg (by omega), if_neg (by omega), if_neg (by omega), if_neg (by omega)]
    exact hide rfl
  go_enter Try.func24, Try.ntmps24
  go_wp2_with (first | (go_at_call 32; refine (iPlain _ _).mono ?_; rintro e w' ⟨rfl, rfl⟩) | (go_at_call 30; refine (iWrap _ _).mono ?_; rintro e w' ⟨rfl, rfl⟩))
  go_ret
  exact ⟨ret_bool H.out.symm, rfl⟩
theorem iCmp (op a b : Int) (w : World) : Calls Try.prog 24 #[.int .i64 op, .int .i64 a, .int .i64 b] w fun e w' => e = .returned (.bool (cmpV op a b)) ∧ w = w' := by
  by_cases h : op < 1 ∨ 10 < op
  · exact iCmp0 op a b w h
  · rcases (by omega : op = 1 ∨ op = 2 ∨ op = 3 ∨ op = 4 ∨ op = 5 ∨ op = 6 ∨ op = 7 ∨ op = 8 ∨ op = 9 ∨ op = 10) with rfl | rfl | rfl | rfl | rfl | rfl | rfl | rfl | rfl | rfl
    · exact iCmp1 a b w
    · exact iCmp2 a b w
    · exact iCmp3 a b w
    · exact iCmp4 a b w
    · exact iCmp5 a b w
    · exact iCmp6 a b w
    · exact iCmp7 a b w
    · exact iCmp8 a b w
    · exact iCmp9 a b w
    · exact iCmp10 a b w
theorem sCmp1 (a b : Int) (w : World) : Calls Try.prog 23 #[.int .i64 1, .int .i64 a, .int .i64 b] w fun e w' => e = .returned (.bool (cmpV 1 a b)) ∧ w = w' := by
  have H := hide (K1 a b)
  go_enter Try.func23, Try.ntmps23
  go_wp2_with (first | (go_at_call 53; refine (sPlain _ _).mono ?_; rintro e w' ⟨rfl, rfl⟩) | (go_at_call 52; refine (sWrap _ _).mono ?_; rintro e w' ⟨rfl, rfl⟩))
  go_ret
  exact ⟨ret_bool (by first | exact H.out | (rw [← H.out, Bool.eq_iff_iff]; simp; done)), rfl⟩
theorem sCmp2 (a b : Int) (w : World) : Calls Try.prog 23 #[.int .i64 2, .int .i64 a, .int .i64 b] w fun e w' => e = .returned (.bool (cmpV 2 a b)) ∧ w = w' := by
  have H := hide (K2 a b)
  go_enter Try.func23, Try.ntmps23
  go_wp2_with (first | (go_at_call 53; refine (sPlain _ _).mono ?_; rintro e w' ⟨rfl, rfl⟩) | (go_at_call 52; refine (sWrap _ _).mono ?_; rintro e w' ⟨rfl, rfl⟩))
  go_ret
  exact ⟨ret_bool (by first | exact H.out | (rw [← H.out, Bool.eq_iff_iff]; simp; done)), rfl⟩
theorem sCmp3 (a b : Int) (w : World) : Calls Try.prog 23 #[.int .i64 3, .int .i64 a, .int .i64 b] w fun e w' => e = .returned (.bool (cmpV 3 a b)) ∧ w = w' := by
  have H := hide (K3 a b)
  go_enter Try.func23, Try.ntmps23
  go_wp2_with (first | (go_at_call 53; refine (sPlain _ _).mono ?_; rintro e w' ⟨rfl, rfl⟩) | (go_at_call 52; refine (sWrap _ _).mono ?_; rintro e w' ⟨rfl, rfl⟩))
  go_ret
  exact ⟨ret_bool (by first | exact H.out | (rw [← H.out, Bool.eq_iff_iff]; simp; done)), rfl⟩
theorem sCmp4 (a b : Int) (w : World) : Calls Try.prog 23 #[.int .i64 4, .int .i64 a, .int .i64 b] w fun e w' => e = .returned (.bool (cmpV 4 a b)) ∧ w = w' := by
  have H := hide (K4 a b)
  go_enter Try.func23, Try.ntmps23
  go_wp2_with (first | (go_at_call 53; refine (sPlain _ _).mono ?_; rintro e w' ⟨rfl, rfl⟩) | (go_at_call 52; refine (sWrap _ _).mono ?_; rintro e w' ⟨rfl, rfl⟩))
  go_ret
  exact ⟨ret_bool (by first | exact H.out | (rw [← H.out, Bool.eq_iff_iff]; simp; done)), rfl⟩
theorem sCmp5 (a b : Int) (w : World) : Calls Try.prog 23 #[.int .i64 5, .int .i64 a, .int .i64 b] w fun e w' => e = .returned (.bool (cmpV 5 a b)) ∧ w = w' := by
  have H := hide (K5 a b)
  go_enter Try.func23, Try.ntmps23
  go_wp2_with (first | (go_at_call 53; refine (sPlain _ _).mono ?_; rintro e w' ⟨rfl, rfl⟩) | (go_at_call 52; refine (sWrap _ _).mono ?_; rintro e w' ⟨rfl, rfl⟩))
  go_ret
  exact ⟨ret_bool (by first | exact H.out | (rw [← H.out, Bool.eq_iff_iff]; simp; done)), rfl⟩
theorem sCmp6 (a b : Int) (w : World) : Calls Try.prog 23 #[.int .i64 6, .int .i64 a, .int .i64 b] w fun e w' => e = .returned (.bool (cmpV 6 a b)) ∧ w = w' := by
  have H := hide (K6 a b)
  go_enter Try.func23, Try.ntmps23
  go_wp2_with (first | (go_at_call 53; refine (sPlain _ _).mono ?_; rintro e w' ⟨rfl, rfl⟩) | (go_at_call 52; refine (sWrap _ _).mono ?_; rintro e w' ⟨rfl, rfl⟩))
  go_ret
  exact ⟨ret_bool (by first | exact H.out | (rw [← H.out, Bool.eq_iff_iff]; simp; done)), rfl⟩
theorem sCmp7 (a b : Int) (w : World) : Calls Try.prog 23 #[.int .i64 7, .int .i64 a, .int .i64 b] w fun e w' => e = .returned (.bool (cmpV 7 a b)) ∧ w = w' := by
  have H := hide (K7 a b)
  go_enter Try.func23, Try.ntmps23
  go_wp2_with (first | (go_at_call 53; refine (sPlain _ _).mono ?_; rintro e w' ⟨rfl, rfl⟩) | (go_at_call 52; refine (sWrap _ _).mono ?_; rintro e w' ⟨rfl, rfl⟩))
  go_ret
  exact ⟨ret_bool (by first | exact H.out | (rw [← H.out, Bool.eq_iff_iff]; simp; done)), rfl⟩
theorem sCmp8 (a b : Int) (w : World) : Calls Try.prog 23 #[.int .i64 8, .int .i64 a, .int .i64 b] w fun e w' => e = .returned (.bool (cmpV 8 a b)) ∧ w = w' := by
  have H := hide (K8 a b)
  go_enter Try.func23, Try.ntmps23
  go_wp2_with (first | (go_at_call 53; refine (sPlain _ _).mono ?_; rintro e w' ⟨rfl, rfl⟩) | (go_at_call 52; refine (sWrap _ _).mono ?_; rintro e w' ⟨rfl, rfl⟩))
  go_ret
  exact ⟨ret_bool (by first | exact H.out | (rw [← H.out, Bool.eq_iff_iff]; simp; done)), rfl⟩
theorem sCmp9 (a b : Int) (w : World) : Calls Try.prog 23 #[.int .i64 9, .int .i64 a, .int .i64 b] w fun e w' => e = .returned (.bool (cmpV 9 a b)) ∧ w = w' := by
  have H := hide (K9 a b)
  go_enter Try.func23, Try.ntmps23
  go_wp2_with (first | (go_at_call 53; refine (sPlain _ _).mono ?_; rintro e w' ⟨rfl, rfl⟩) | (go_at_call 52; refine (sWrap _ _).mono ?_; rintro e w' ⟨rfl, rfl⟩))
  go_ret
  exact ⟨ret_bool (by first | exact H.out | (rw [← H.out, Bool.eq_iff_iff]; simp; done)), rfl⟩
theorem sCmp10 (a b : Int) (w : World) : Calls Try.prog 23 #[.int .i64 10, .int .i64 a, .int .i64 b] w fun e w' => e = .returned (.bool (cmpV 10 a b)) ∧ w = w' := by
  have H := hide (K10 a b)
  go_enter Try.func23, Try.ntmps23
  go_wp2_with (first | (go_at_call 53; refine (sPlain _ _).mono ?_; rintro e w' ⟨rfl, rfl⟩) | (go_at_call 52; refine (sWrap _ _).mono ?_; rintro e w' ⟨rfl, rfl⟩))
  go_ret
  exact ⟨ret_bool (by first | exact H.out | (rw [← H.out, Bool.eq_iff_iff]; simp; done)), rfl⟩
theorem sCmp0 (op a b : Int) (w : World) (h : op < 1 ∨ 10 < op) : Calls Try.prog 23 #[.int .i64 op, .int .i64 a, .int .i64 b] w fun e w' => e = .returned (.bool (cmpV op a b)) ∧ w = w' := by
  have H : Hid (cmpV op a b = false) := by
    unfold cmpV
    rw [if_neg (by omega), if_neg (by omega), if_neg (by omega), if_neg (by omega), if_neg (by omega), if_neg (by omega), if_neg (by omega), if_neg (by omega), if_neg (by omega), if_neg (by omega)]
    exact hide rfl
  go_enter Try.func23, Try.ntmps23
  go_wp2_with (first | (go_at_call 53; refine (sPlain _ _).mono ?_; rintro e w' ⟨rfl, rfl⟩) | (go_at_call 52; refine (sWrap _ _).mono ?_; rintro e w' ⟨rfl, rfl⟩))
  go_ret
  exact ⟨ret_bool H.out.symm, rfl⟩
theorem sCmp (op a b : Int) (w : World) : Calls Try.prog 23 #[.int .i64 op, .int .i64 a, .int .i64 b] w fun e w' => e = .returned (.bool (cmpV op a b)) ∧ w = w' := by
  by_cases h : op < 1 ∨ 10 < op
  · exact sCmp0 op a b w h
  · rcases (by omega : op = 1 ∨ op = 2 ∨ op = 3 ∨ op = 4 ∨ op = 5 ∨ op = 6 ∨ op = 7 ∨ op = 8 ∨ op = 9 ∨ op = 10) with rfl | rfl | rfl | rfl | rfl | rfl | rfl | rfl | rfl | rfl
    · exact sCmp1 a b w
    · exact sCmp2 a b w
    · exact sCmp3 a b w
    · exact sCmp4 a b w
    · exact sCmp5 a b w
    · exact sCmp6 a b w
    · exact sCmp7 a b w
    · exact sCmp8 a b w
    · exact sCmp9 a b w
    · exact sCmp10 a b w
end Go.Proofs.Ytpnicmhgenbnmaa.BitC
