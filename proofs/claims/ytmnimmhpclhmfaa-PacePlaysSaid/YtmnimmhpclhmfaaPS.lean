import Derived.Test.YtmnimmhpclhmfaaPR
namespace Go.Proofs.Ytmnimmhpclhmfaa.PC
open Go.Eng
set_option maxRecDepth 100000
section
variable {ro : Addr → A → Prop}
set_option maxHeartbeats 400000 in
theorem normalize58s (b : Nat) (hb : b < 18446744073709551616) (h : fLtK .f64 (absF b) 4503599627370496 = true) {K : V → Hp → Prop} (hK : ∀ r, Ans (FloatKind.f64.format.mul b 4841369599423283200) r → K (.t [.a (.flt .f64 r), .a (.int .i64 (-52))]) []) : Go.Eng.Fn Try.prog ro 58 [.a (.flt .f64 b)] [] K := by
  refine Go.Eng.Fn.weak ?_
  refine Go.Eng.Fn.of_code (gOf []) Try.func58 rfl (Nat.le_of_ble_eq_true rfl) ?_
  conv => whnf
  repeat' (first
    | ((with_reducible refine regx_of ?_ ?_); (· decide +kernel); conv => whnf)
    | ((with_reducible refine growx_pre ?_ ?_); (· exact ⟨_, rfl⟩); conv => whnf)
    | ((with_reducible refine needm_of ?_ ?_); (· first | assumption | exact decide_eq_true (by omega) | exact mkOK_of (by decide) | decide +kernel | (refine decide_eq_true ?_; simp (disch := omega) only [i64w]; omega)); conv => whnf)
    | ((with_reducible refine condm_pos ?_ ?_); (· assumption); conv => whnf)
    | ((with_reducible refine condm_neg ?_ ?_); (· assumption); conv => whnf)
    | ((with_reducible refine forceL_fv (by assumption) ?_); conv => whnf)
    | ((with_reducible refine forceL_rfv (by assumption) ?_); conv => whnf)
    | ((with_reducible refine forceNm_of ?_); conv => whnf)
    | ((with_reducible refine needm_of (fv_lenL (by assumption) (by assumption)) ?_); conv => whnf)
    | ((with_reducible refine optm_var (fv_strL (by assumption) (by assumption)) (fun s hs => ?_)); conv => whnf)
    | ((with_reducible refine forceA_of ?_); conv => whnf)
    | ((with_reducible refine forceL_pl (by assumption) ?_); conv => whnf)
    | ((with_reducible refine forceL_rpl (by assumption) ?_); conv => whnf)
    | ((with_reducible refine fltx_of (fun r hr => ?_)); conv => whnf)
    | ((refine ext_bits (by rfl) bits_n bits_f ?_); conv => whnf)
    | ((refine ext_from (by rfl) from_n from_f ?_); conv => whnf)
    | fail)
  refine Go.Eng.Fn.frame [] (by rfl) (by exact trivial) (by rfl) (abs40 b hb ?_)
  conv => whnf
  repeat' (first
    | ((with_reducible refine regx_of ?_ ?_); (· decide +kernel); conv => whnf)
    | ((with_reducible refine growx_pre ?_ ?_); (· exact ⟨_, rfl⟩); conv => whnf)
    | ((with_reducible refine needm_of ?_ ?_); (· first | assumption | exact decide_eq_true (by omega) | exact mkOK_of (by decide) | decide +kernel | (refine decide_eq_true ?_; simp (disch := omega) only [i64w]; omega)); conv => whnf)
    | ((with_reducible refine condm_pos ?_ ?_); (· assumption); conv => whnf)
    | ((with_reducible refine condm_neg ?_ ?_); (· assumption); conv => whnf)
    | ((with_reducible refine forceL_fv (by assumption) ?_); conv => whnf)
    | ((with_reducible refine forceL_rfv (by assumption) ?_); conv => whnf)
    | ((with_reducible refine forceNm_of ?_); conv => whnf)
    | ((with_reducible refine needm_of (fv_lenL (by assumption) (by assumption)) ?_); conv => whnf)
    | ((with_reducible refine optm_var (fv_strL (by assumption) (by assumption)) (fun s hs => ?_)); conv => whnf)
    | ((with_reducible refine forceA_of ?_); conv => whnf)
    | ((with_reducible refine forceL_pl (by assumption) ?_); conv => whnf)
    | ((with_reducible refine forceL_rpl (by assumption) ?_); conv => whnf)
    | ((with_reducible refine fltx_of (fun r hr => ?_)); conv => whnf)
    | ((refine ext_bits (by rfl) bits_n bits_f ?_); conv => whnf)
    | ((refine ext_from (by rfl) from_n from_f ?_); conv => whnf)
    | fail)
  exact keepOf (v₀ := .t [.a (.flt .f64 r), .a (.int .i64 (-52))]) [] [] rfl trivial rfl (hK r hr)
/-- What is known of a subnormal float that was made normal. -/
theorem norm_s {b r : Nat} (h1 : 1 ≤ b) (hb : b < 4503599627370496) (hr : Ans (FloatKind.f64.format.mul b 4841369599423283200) r) : r < bInf ∧ 4503599627370496 ≤ r ∧ vmag r = b * 2 ^ 52 ∧ r / 4503599627370496 ≤ 53 := by
  have hbI : b < bInf := by have : (4503599627370496 : Nat) < bInf := by decide
                            omega
  obtain ⟨q1, q2⟩ := sgn_pos (Nat.le_of_lt hbI)
  obtain ⟨m, i, r1, _⟩ := read_fin b (by omega)
  rw [mul_comm64 b 4841369599423283200 _ _ _ _ _ _ r1 read_52] at hr
  have e := mul_pow hbI read_52 hr
  have vb : vmag b = b := by
    have e2 := vmag_rung 0 b (by unfold bBin; omega) (.inl rfl)
    rw [Nat.zero_mul, Nat.zero_add, Nat.pow_zero, Nat.mul_one] at e2
    exact e2
  have k := ldx_mul hbI 52
  rw [vb, ← e] at k
  have p52 : (2 : Nat) ^ 52 = 4503599627370496 := by decide
  have v54 : vmag (54 * 4503599627370496) = 4503599627370496 * 2 ^ 53 := by
    have := vmag_rung 53 4503599627370496 (by unfold bBin; omega) (.inr (by unfold bBin; omega))
    rw [← this]; unfold bBin; rfl
  have vlow : vmag 4503599627370495 = 4503599627370495 := by
    have e2 := vmag_rung 0 4503599627370495 (by unfold bBin; omega) (.inl rfl)
    rw [Nat.zero_mul, Nat.zero_add, Nat.pow_zero, Nat.mul_one] at e2
    exact e2
  have p53 : (2 : Nat) ^ 53 = 9007199254740992 := by decide
  rw [p53] at v54
  have hv : vmag r = b * 2 ^ 52 ∧ r < bInf := by
    rcases k with ⟨k1, k2⟩ | ⟨k1, k2⟩
    · exact ⟨k2, k1⟩
    · exfalso
      have h3 := vmag_lt (r := 54 * 4503599627370496) (s := bInf) (by unfold bInf; omega)
      rw [v54] at h3
      rw [p52] at k2
      omega
  refine ⟨hv.2, ?_, hv.1, ?_⟩
  · rcases Nat.lt_or_ge r 4503599627370496 with h | h
    · have := vmag_le (r := r) (s := 4503599627370495) (by omega)
      rw [vlow, hv.1, p52] at this
      omega
    · exact h
  · rcases Nat.lt_or_ge r (54 * 4503599627370496) with h | h
    · omega
    · have := vmag_le h
      rw [v54, hv.1, p52] at this
      omega
theorem vmag_norm {b k : Nat} (h : 4503599627370496 ≤ b) : vmag (b + k * 4503599627370496) = vmag b * 2 ^ k := by
  induction k with
  | zero => rw [Nat.zero_mul, Nat.add_zero, Nat.pow_zero, Nat.mul_one]
  | succ k ih =>
    have e : b + (k + 1) * 4503599627370496 = (b + k * 4503599627370496) + bBin := by unfold bBin; omega
    rw [e, vmag_2 (by unfold bBin; omega), ih, Nat.pow_succ, ← Nat.mul_assoc (vmag b), Nat.mul_comm 2]
theorem pow_swap (b k : Nat) : b * 2 ^ 52 * 2 ^ (k + 1) = b * 2 ^ k * 2 ^ 53 := by
  have e1 : (2 : Nat) ^ 53 = 2 ^ 52 * 2 := by decide
  have e2 : (2 : Nat) ^ (k + 1) = 2 ^ k * 2 := Nat.pow_succ 2 k
  rw [e1, e2]
  generalize (2 : Nat) ^ 52 = q
  generalize (2 : Nat) ^ k = p
  rw [← Nat.mul_assoc, ← Nat.mul_assoc, Nat.mul_right_comm b q p]
theorem mul_m53 {b k X r : Nat} (hX : X < bInf) (e : vmag X = vmag b * 2 ^ k * 2 ^ 53) (hb : b < bInf) (h : Ans (FloatKind.f64.format.mul 4368491638549381120 X) r) : r = ldx b k := by
  obtain ⟨h1, h2⟩ := sgn_pos (Nat.le_of_lt hX)
  obtain ⟨R, e1, e2, e3⟩ := mul_resl (x := X) (s := 53) (t := 0) (by omega) read_m53
  rw [h1, word_pos] at e1
  rw [ans_lit h e1]
  refine ldx_eq hb e2 fun r hr => ?_
  have := e3 r hr
  rw [h2, Nat.pow_zero, Nat.mul_one, e] at this
  have p := Nat.two_pow_pos 53
  exact ⟨fun h => this.1 (Nat.mul_le_mul_right _ h), fun h => this.2 (Nat.mul_le_mul_right _ h)⟩
set_option maxHeartbeats 400000 in
theorem ldexp54s (b k : Nat) (h1 : 1 ≤ b) (hb : b < 4503599627370496) (hk : k ≤ 10) {K : V → Hp → Prop} (hK : K (.a (.flt .f64 (ldx b k))) []) : Go.Eng.Fn Try.prog ro 54 [.a (.flt .f64 b), .a (.int .i64 (k : Int))] [] K := by
  have hbI : b < 9218868437227405312 := by omega
  have hr : rung b = b := Nat.mod_eq_of_lt (by unfold bSign; omega)
  have hs : sgn b = false := by unfold sgn bSign; rw [Nat.div_eq_of_lt (by omega)]; rfl
  have hf : fkey b = some (b : Int) := by rw [fkey_pos (by rw [hr]; unfold bInf; omega) hs, hr]
  have c0 : fEqK .f64 b 0 = false := by
    rw [fEq_key, hf]
    show decide ((b : Int) = 0) = false
    exact decide_eq_false (by omega)
  have c1 : isInf b = false := by
    have := fin_eq b
    have h2 : fin b = true := by unfold fin; rw [hr]; exact decide_eq_true (by unfold bInf; omega)
    rw [h2] at this
    simp at this
    exact this.2
  have c2 : isNan b = false := by rw [fkey_nan, hf]; rfl
  have ha : absF b = b := by unfold absF; exact Nat.mod_eq_of_lt (by unfold bSign; omega)
  have c3 : fLtK .f64 (absF b) 4503599627370496 = true := by
    rw [ha, fLt_key, hf]
    show decide ((b : Int) < 4503599627370496) = true
    exact decide_eq_true (by omega)
  refine Go.Eng.Fn.weak ?_
  refine Go.Eng.Fn.of_code (gOf []) Try.func54 rfl (Nat.le_of_ble_eq_true rfl) ?_
  conv => whnf
  repeat' (first
    | ((with_reducible refine regx_of ?_ ?_); (· decide +kernel); conv => whnf)
    | ((with_reducible refine growx_pre ?_ ?_); (· exact ⟨_, rfl⟩); conv => whnf)
    | ((with_reducible refine needm_of ?_ ?_); (· first | assumption | exact decide_eq_true (by omega) | exact mkOK_of (by decide) | decide +kernel | (refine decide_eq_true ?_; simp (disch := omega) only [i64w]; omega)); conv => whnf)
    | ((with_reducible refine condm_pos ?_ ?_); (· assumption); conv => whnf)
    | ((with_reducible refine condm_neg ?_ ?_); (· assumption); conv => whnf)
    | ((with_reducible refine forceL_fv (by assumption) ?_); conv => whnf)
    | ((with_reducible refine forceL_rfv (by assumption) ?_); conv => whnf)
    | ((with_reducible refine forceNm_of ?_); conv => whnf)
    | ((with_reducible refine needm_of (fv_lenL (by assumption) (by assumption)) ?_); conv => whnf)
    | ((with_reducible refine optm_var (fv_strL (by assumption) (by assumption)) (fun s hs => ?_)); conv => whnf)
    | ((with_reducible refine forceA_of ?_); conv => whnf)
    | ((with_reducible refine forceL_pl (by assumption) ?_); conv => whnf)
    | ((with_reducible refine forceL_rpl (by assumption) ?_); conv => whnf)
    | ((with_reducible refine fltx_of (fun r hr => ?_)); conv => whnf)
    | ((refine ext_bits (by rfl) bits_n bits_f ?_); conv => whnf)
    | ((refine ext_from (by rfl) from_n from_f ?_); conv => whnf)
    | fail)
  refine Go.Eng.Fn.frame [] (by rfl) (by exact trivial) (by rfl) (isinf28 b (by omega) ?_)
  conv => whnf
  repeat' (first
    | ((with_reducible refine regx_of ?_ ?_); (· decide +kernel); conv => whnf)
    | ((with_reducible refine growx_pre ?_ ?_); (· exact ⟨_, rfl⟩); conv => whnf)
    | ((with_reducible refine needm_of ?_ ?_); (· first | assumption | exact decide_eq_true (by omega) | exact mkOK_of (by decide) | decide +kernel | (refine decide_eq_true ?_; simp (disch := omega) only [i64w]; omega)); conv => whnf)
    | ((with_reducible refine condm_pos ?_ ?_); (· assumption); conv => whnf)
    | ((with_reducible refine condm_neg ?_ ?_); (· assumption); conv => whnf)
    | ((with_reducible refine forceL_fv (by assumption) ?_); conv => whnf)
    | ((with_reducible refine forceL_rfv (by assumption) ?_); conv => whnf)
    | ((with_reducible refine forceNm_of ?_); conv => whnf)
    | ((with_reducible refine needm_of (fv_lenL (by assumption) (by assumption)) ?_); conv => whnf)
    | ((with_reducible refine optm_var (fv_strL (by assumption) (by assumption)) (fun s hs => ?_)); conv => whnf)
    | ((with_reducible refine forceA_of ?_); conv => whnf)
    | ((with_reducible refine forceL_pl (by assumption) ?_); conv => whnf)
    | ((with_reducible refine forceL_rpl (by assumption) ?_); conv => whnf)
    | ((with_reducible refine fltx_of (fun r hr => ?_)); conv => whnf)
    | ((refine ext_bits (by rfl) bits_n bits_f ?_); conv => whnf)
    | ((refine ext_from (by rfl) from_n from_f ?_); conv => whnf)
    | fail)
  refine Go.Eng.Fn.frame [] (by rfl) (by exact trivial) (by rfl) (isnan32 b ?_)
  conv => whnf
  repeat' (first
    | ((with_reducible refine regx_of ?_ ?_); (· decide +kernel); conv => whnf)
    | ((with_reducible refine growx_pre ?_ ?_); (· exact ⟨_, rfl⟩); conv => whnf)
    | ((with_reducible refine needm_of ?_ ?_); (· first | assumption | exact decide_eq_true (by omega) | exact mkOK_of (by decide) | decide +kernel | (refine decide_eq_true ?_; simp (disch := omega) only [i64w]; omega)); conv => whnf)
    | ((with_reducible refine condm_pos ?_ ?_); (· assumption); conv => whnf)
    | ((with_reducible refine condm_neg ?_ ?_); (· assumption); conv => whnf)
    | ((with_reducible refine forceL_fv (by assumption) ?_); conv => whnf)
    | ((with_reducible refine forceL_rfv (by assumption) ?_); conv => whnf)
    | ((with_reducible refine forceNm_of ?_); conv => whnf)
    | ((with_reducible refine needm_of (fv_lenL (by assumption) (by assumption)) ?_); conv => whnf)
    | ((with_reducible refine optm_var (fv_strL (by assumption) (by assumption)) (fun s hs => ?_)); conv => whnf)
    | ((with_reducible refine forceA_of ?_); conv => whnf)
    | ((with_reducible refine forceL_pl (by assumption) ?_); conv => whnf)
    | ((with_reducible refine forceL_rpl (by assumption) ?_); conv => whnf)
    | ((with_reducible refine fltx_of (fun r hr => ?_)); conv => whnf)
    | ((refine ext_bits (by rfl) bits_n bits_f ?_); conv => whnf)
    | ((refine ext_from (by rfl) from_n from_f ?_); conv => whnf)
    | fail)
  refine Go.Eng.Fn.frame [] (by rfl) (by exact trivial) (by rfl) (normalize58s b (by omega) c3 (fun d hd => ?_))
  obtain ⟨d1, d2, d3, d4⟩ := norm_s h1 hb hd
  have d1' : d < 9218868437227405312 := d1
  clear hd
  conv => whnf
  repeat' (first
    | ((with_reducible refine regx_of ?_ ?_); (· decide +kernel); conv => whnf)
    | ((with_reducible refine growx_pre ?_ ?_); (· exact ⟨_, rfl⟩); conv => whnf)
    | ((with_reducible refine needm_of ?_ ?_); (· first | assumption | exact decide_eq_true (by omega) | exact mkOK_of (by decide) | decide +kernel | (refine decide_eq_true ?_; simp (disch := omega) only [i64w]; omega)); conv => whnf)
    | ((with_reducible refine condm_pos ?_ ?_); (· assumption); conv => whnf)
    | ((with_reducible refine condm_neg ?_ ?_); (· assumption); conv => whnf)
    | ((with_reducible refine forceL_fv (by assumption) ?_); conv => whnf)
    | ((with_reducible refine forceL_rfv (by assumption) ?_); conv => whnf)
    | ((with_reducible refine forceNm_of ?_); conv => whnf)
    | ((with_reducible refine needm_of (fv_lenL (by assumption) (by assumption)) ?_); conv => whnf)
    | ((with_reducible refine optm_var (fv_strL (by assumption) (by assumption)) (fun s hs => ?_)); conv => whnf)
    | ((with_reducible refine forceA_of ?_); conv => whnf)
    | ((with_reducible refine forceL_pl (by assumption) ?_); conv => whnf)
    | ((with_reducible refine forceL_rpl (by assumption) ?_); conv => whnf)
    | ((with_reducible refine fltx_of (fun r hr => ?_)); conv => whnf)
    | ((refine ext_bits (by rfl) bits_n bits_f ?_); conv => whnf)
    | ((refine ext_from (by rfl) from_n from_f ?_); conv => whnf)
    | fail)
  have hf1 : (d : Int).fdiv (2 ^ min (Int.toNat 52) IntKind.u64.bits) = ((d / 4503599627370496 : Nat) : Int) := fdivN d 4503599627370496
  have hE1 : 1 ≤ d / 4503599627370496 := by omega
  generalize hE : d / 4503599627370496 = e at *
  have hX : IntKind.i64.wrap (IntKind.i64.wrap (↑k + -52) + IntKind.i64.wrap (bitx BinOp.and IntKind.i64 (IntKind.i64.wrap ((d : Int).fdiv (2 ^ min (Int.toNat 52) IntKind.u64.bits))) 2047 - 1023)) = (e : Int) + k - 1075 := by
    rw [hf1, i64w (x := (e : Int)) (by omega) (by omega), and_2047 (by omega), i64w (x := (e : Int) - 1023) (by omega) (by omega), i64w (x := (k : Int) + -52) (by omega) (by omega), i64w (by omega) (by omega)]
    omega
  have c5 : decide ((e : Int) + k - 1075 < -1075) = false := decide_eq_false (by omega)
  have c6 : decide ((e : Int) + k - 1075 > 1023) = false := decide_eq_false (by omega)
  rw [hX]
  have vb : vmag b = b := by
    have e2 := vmag_rung 0 b (by unfold bBin; omega) (.inl rfl)
    rw [Nat.zero_mul, Nat.zero_add, Nat.pow_zero, Nat.mul_one] at e2
    exact e2
  have vb' : vmag b * 2 ^ k = b * 2 ^ k := by rw [vb]
  by_cases hk2 : e + k < 53
  · have c7 : decide ((e : Int) + k - 1075 < -1022) = true := decide_eq_true (by omega)
    conv => whnf
    repeat' (first
      | ((with_reducible refine regx_of ?_ ?_); (· decide +kernel); conv => whnf)
      | ((with_reducible refine growx_pre ?_ ?_); (· exact ⟨_, rfl⟩); conv => whnf)
      | ((with_reducible refine needm_of ?_ ?_); (· first | assumption | exact decide_eq_true (by omega) | exact mkOK_of (by decide) | decide +kernel | (refine decide_eq_true ?_; simp (disch := omega) only [i64w]; omega)); conv => whnf)
      | ((with_reducible refine condm_pos ?_ ?_); (· assumption); conv => whnf)
      | ((with_reducible refine condm_neg ?_ ?_); (· assumption); conv => whnf)
      | ((with_reducible refine forceL_fv (by assumption) ?_); conv => whnf)
      | ((with_reducible refine forceL_rfv (by assumption) ?_); conv => whnf)
      | ((with_reducible refine forceNm_of ?_); conv => whnf)
      | ((with_reducible refine needm_of (fv_lenL (by assumption) (by assumption)) ?_); conv => whnf)
      | ((with_reducible refine optm_var (fv_strL (by assumption) (by assumption)) (fun s hs => ?_)); conv => whnf)
      | ((with_reducible refine forceA_of ?_); conv => whnf)
      | ((with_reducible refine forceL_pl (by assumption) ?_); conv => whnf)
      | ((with_reducible refine forceL_rpl (by assumption) ?_); conv => whnf)
      | ((with_reducible apply optm_of); (· first | exact g0 | exact g1 | exact g2 | exact g3 | exact g4 | exact g5 | exact g6); conv => whnf)
      | fail)
    have hY : bitx BinOp.or IntKind.u64 (bitx BinOp.andNot IntKind.u64 (d : Int) 9218868437227405312) (IntKind.u64.wrap (IntKind.u64.wrap (IntKind.i64.wrap (IntKind.i64.wrap ((e : Int) + k - 1075 + 53) + 1023)) * 2 ^ min (Int.toNat 52) IntKind.u64.bits)) = ((d + (k + 1) * 4503599627370496 : Nat) : Int) := by
      have a1 : IntKind.i64.wrap (IntKind.i64.wrap ((e : Int) + k - 1075 + 53) + 1023) = ((e + k + 1 : Nat) : Int) := by rw [i64w (x := (e : Int) + k - 1075 + 53) (by omega) (by omega), i64w (by omega) (by omega)]; omega
      have a2 : ((e + k + 1 : Nat) : Int) * 2 ^ min (Int.toNat 52) IntKind.u64.bits = (((e + k + 1) * 4503599627370496 : Nat) : Int) := by
        show ((e + k + 1 : Nat) : Int) * 4503599627370496 = _
        omega
      rw [andNot_exp (by omega), a1, u64w, Nat.mod_eq_of_lt (show e + k + 1 < 18446744073709551616 by omega), a2, u64w, Nat.mod_eq_of_lt (show (e + k + 1) * 4503599627370496 < 18446744073709551616 by omega), or_field (by omega) (by omega)]
      congr 1
      omega
    rw [hY]
    refine ext_from (by rfl) from_n from_f ?_
    rw [Int.toNat_natCast]
    conv => whnf
    repeat' (first
      | ((with_reducible refine regx_of ?_ ?_); (· decide +kernel); conv => whnf)
      | ((with_reducible refine growx_pre ?_ ?_); (· exact ⟨_, rfl⟩); conv => whnf)
      | ((with_reducible refine needm_of ?_ ?_); (· first | assumption | exact decide_eq_true (by omega) | exact mkOK_of (by decide) | decide +kernel | (refine decide_eq_true ?_; simp (disch := omega) only [i64w]; omega)); conv => whnf)
      | ((with_reducible refine condm_pos ?_ ?_); (· assumption); conv => whnf)
      | ((with_reducible refine condm_neg ?_ ?_); (· assumption); conv => whnf)
      | ((with_reducible refine forceL_fv (by assumption) ?_); conv => whnf)
      | ((with_reducible refine forceL_rfv (by assumption) ?_); conv => whnf)
      | ((with_reducible refine forceNm_of ?_); conv => whnf)
      | ((with_reducible refine needm_of (fv_lenL (by assumption) (by assumption)) ?_); conv => whnf)
      | ((with_reducible refine optm_var (fv_strL (by assumption) (by assumption)) (fun s hs => ?_)); conv => whnf)
      | ((with_reducible refine forceA_of ?_); conv => whnf)
      | ((with_reducible refine forceL_pl (by assumption) ?_); conv => whnf)
      | ((with_reducible refine forceL_rpl (by assumption) ?_); conv => whnf)
      | ((with_reducible apply optm_of); (· first | exact g0 | exact g1 | exact g2 | exact g3 | exact g4 | exact g5 | exact g6); conv => whnf)
      | fail)
    refine fltx_of (fun r hr => ?_)
    have hv := vmag_norm (k := k + 1) d2
    rw [d3] at hv
    obtain rfl := mul_m53 (b := b) (k := k) (show d + (k + 1) * 4503599627370496 < bInf by unfold bInf; omega) (by rw [hv, vb']; exact pow_swap b k) hbI hr
    conv => whnf
    repeat' (first
      | ((with_reducible refine regx_of ?_ ?_); (· decide +kernel); conv => whnf)
      | ((with_reducible refine growx_pre ?_ ?_); (· exact ⟨_, rfl⟩); conv => whnf)
      | ((with_reducible refine needm_of ?_ ?_); (· first | assumption | exact decide_eq_true (by omega) | exact mkOK_of (by decide) | decide +kernel | (refine decide_eq_true ?_; simp (disch := omega) only [i64w]; omega)); conv => whnf)
      | ((with_reducible refine condm_pos ?_ ?_); (· assumption); conv => whnf)
      | ((with_reducible refine condm_neg ?_ ?_); (· assumption); conv => whnf)
      | ((with_reducible refine forceL_fv (by assumption) ?_); conv => whnf)
      | ((with_reducible refine forceL_rfv (by assumption) ?_); conv => whnf)
      | ((with_reducible refine forceNm_of ?_); conv => whnf)
      | ((with_reducible refine needm_of (fv_lenL (by assumption) (by assumption)) ?_); conv => whnf)
      | ((with_reducible refine optm_var (fv_strL (by assumption) (by assumption)) (fun s hs => ?_)); conv => whnf)
      | ((with_reducible refine forceA_of ?_); conv => whnf)
      | ((with_reducible refine forceL_pl (by assumption) ?_); conv => whnf)
      | ((with_reducible refine forceL_rpl (by assumption) ?_); conv => whnf)
      | ((with_reducible apply optm_of); (· first | exact g0 | exact g1 | exact g2 | exact g3 | exact g4 | exact g5 | exact g6); conv => whnf)
      | fail)
    exact keepOf (v₀ := .a (.flt .f64 (ldx b k))) [] [] rfl trivial rfl hK
  · have c7 : decide ((e : Int) + k - 1075 < -1022) = false := decide_eq_false (by omega)
    conv => whnf
    repeat' (first
      | ((with_reducible refine regx_of ?_ ?_); (· decide +kernel); conv => whnf)
      | ((with_reducible refine growx_pre ?_ ?_); (· exact ⟨_, rfl⟩); conv => whnf)
      | ((with_reducible refine needm_of ?_ ?_); (· first | assumption | exact decide_eq_true (by omega) | exact mkOK_of (by decide) | decide +kernel | (refine decide_eq_true ?_; simp (disch := omega) only [i64w]; omega)); conv => whnf)
      | ((with_reducible refine condm_pos ?_ ?_); (· assumption); conv => whnf)
      | ((with_reducible refine condm_neg ?_ ?_); (· assumption); conv => whnf)
      | ((with_reducible refine forceL_fv (by assumption) ?_); conv => whnf)
      | ((with_reducible refine forceL_rfv (by assumption) ?_); conv => whnf)
      | ((with_reducible refine forceNm_of ?_); conv => whnf)
      | ((with_reducible refine needm_of (fv_lenL (by assumption) (by assumption)) ?_); conv => whnf)
      | ((with_reducible refine optm_var (fv_strL (by assumption) (by assumption)) (fun s hs => ?_)); conv => whnf)
      | ((with_reducible refine forceA_of ?_); conv => whnf)
      | ((with_reducible refine forceL_pl (by assumption) ?_); conv => whnf)
      | ((with_reducible refine forceL_rpl (by assumption) ?_); conv => whnf)
      | ((with_reducible apply optm_of); (· first | exact g0 | exact g1 | exact g2 | exact g3 | exact g4 | exact g5 | exact g6); conv => whnf)
      | fail)
    have hY : bitx BinOp.or IntKind.u64 (bitx BinOp.andNot IntKind.u64 (d : Int) 9218868437227405312) (IntKind.u64.wrap (IntKind.u64.wrap (IntKind.i64.wrap ((e : Int) + k - 1075 + 1023)) * 2 ^ min (Int.toNat 52) IntKind.u64.bits)) = ((d % 4503599627370496 + (e + k - 52) * 4503599627370496 : Nat) : Int) := by
      have a1 : IntKind.i64.wrap ((e : Int) + k - 1075 + 1023) = ((e + k - 52 : Nat) : Int) := by rw [i64w (by omega) (by omega)]; omega
      have a2 : ((e + k - 52 : Nat) : Int) * 2 ^ min (Int.toNat 52) IntKind.u64.bits = (((e + k - 52) * 4503599627370496 : Nat) : Int) := by
        show ((e + k - 52 : Nat) : Int) * 4503599627370496 = _
        omega
      rw [andNot_exp (by omega), a1, u64w, Nat.mod_eq_of_lt (show e + k - 52 < 18446744073709551616 by omega), a2, u64w, Nat.mod_eq_of_lt (show (e + k - 52) * 4503599627370496 < 18446744073709551616 by omega), or_field (by omega) (by omega)]
    rw [hY]
    refine ext_from (by rfl) from_n from_f ?_
    rw [Int.toNat_natCast]
    obtain ⟨X, hXd⟩ : ∃ X, X = d % 4503599627370496 + (e + k - 52) * 4503599627370496 := ⟨_, rfl⟩
    have hXI : X < bInf := by unfold bInf; omega
    rw [← hXd]
    conv => whnf
    repeat' (first
      | ((with_reducible refine regx_of ?_ ?_); (· decide +kernel); conv => whnf)
      | ((with_reducible refine growx_pre ?_ ?_); (· exact ⟨_, rfl⟩); conv => whnf)
      | ((with_reducible refine needm_of ?_ ?_); (· first | assumption | exact decide_eq_true (by omega) | exact mkOK_of (by decide) | decide +kernel | (refine decide_eq_true ?_; simp (disch := omega) only [i64w]; omega)); conv => whnf)
      | ((with_reducible refine condm_pos ?_ ?_); (· assumption); conv => whnf)
      | ((with_reducible refine condm_neg ?_ ?_); (· assumption); conv => whnf)
      | ((with_reducible refine forceL_fv (by assumption) ?_); conv => whnf)
      | ((with_reducible refine forceL_rfv (by assumption) ?_); conv => whnf)
      | ((with_reducible refine forceNm_of ?_); conv => whnf)
      | ((with_reducible refine needm_of (fv_lenL (by assumption) (by assumption)) ?_); conv => whnf)
      | ((with_reducible refine optm_var (fv_strL (by assumption) (by assumption)) (fun s hs => ?_)); conv => whnf)
      | ((with_reducible refine forceA_of ?_); conv => whnf)
      | ((with_reducible refine forceL_pl (by assumption) ?_); conv => whnf)
      | ((with_reducible refine forceL_rpl (by assumption) ?_); conv => whnf)
      | ((with_reducible apply optm_of); (· first | exact g0 | exact g1 | exact g2 | exact g3 | exact g4 | exact g5 | exact g6); conv => whnf)
      | fail)
    refine fltx_of (fun r hr => ?_)
    have e0 := mul_pow hXI read_1 hr
    rw [ldx_0] at e0
    have hv := vmag_norm (k := 52) (show 4503599627370496 ≤ X by omega)
    have hv2 := vmag_norm (k := k) d2
    have e3 : X + 52 * 4503599627370496 = d + k * 4503599627370496 := by omega
    rw [e3, hv2, d3] at hv
    have e4 : vmag X = vmag b * 2 ^ k := by
      have p := Nat.two_pow_pos 52
      rw [vb']
      rw [Nat.mul_right_comm] at hv
      exact (Nat.eq_of_mul_eq_mul_right p hv).symm
    have e5 := ldx_of hbI hXI e4
    rw [e0, e5]
    conv => whnf
    repeat' (first
      | ((with_reducible refine regx_of ?_ ?_); (· decide +kernel); conv => whnf)
      | ((with_reducible refine growx_pre ?_ ?_); (· exact ⟨_, rfl⟩); conv => whnf)
      | ((with_reducible refine needm_of ?_ ?_); (· first | assumption | exact decide_eq_true (by omega) | exact mkOK_of (by decide) | decide +kernel | (refine decide_eq_true ?_; simp (disch := omega) only [i64w]; omega)); conv => whnf)
      | ((with_reducible refine condm_pos ?_ ?_); (· assumption); conv => whnf)
      | ((with_reducible refine condm_neg ?_ ?_); (· assumption); conv => whnf)
      | ((with_reducible refine forceL_fv (by assumption) ?_); conv => whnf)
      | ((with_reducible refine forceL_rfv (by assumption) ?_); conv => whnf)
      | ((with_reducible refine forceNm_of ?_); conv => whnf)
      | ((with_reducible refine needm_of (fv_lenL (by assumption) (by assumption)) ?_); conv => whnf)
      | ((with_reducible refine optm_var (fv_strL (by assumption) (by assumption)) (fun s hs => ?_)); conv => whnf)
      | ((with_reducible refine forceA_of ?_); conv => whnf)
      | ((with_reducible refine forceL_pl (by assumption) ?_); conv => whnf)
      | ((with_reducible refine forceL_rpl (by assumption) ?_); conv => whnf)
      | ((with_reducible apply optm_of); (· first | exact g0 | exact g1 | exact g2 | exact g3 | exact g4 | exact g5 | exact g6); conv => whnf)
      | fail)
    exact keepOf (v₀ := .a (.flt .f64 (ldx b k))) [] [] rfl trivial rfl hK
/-- Doublings of a float from nought on: what comes of it is waited as long as the plain one. -/
theorem ldexp54t (b k : Nat) (hb : b < 18446744073709551616) {z : Int} (hz : fkey b = some z) (h0 : 0 ≤ z) (hk : k ≤ 10) {K : V → Hp → Prop} (hK : ∀ r, ticks r = ticks (ldx (rung b) k) → K (.a (.flt .f64 r)) []) : Go.Eng.Fn Try.prog ro 54 [.a (.flt .f64 b), .a (.int .i64 (k : Int))] [] K := by
  have nought : ∀ b : Nat, fEqK .f64 b 0 = true → (ticks b = ticks (ldx (rung b) k)) → (∀ r, ticks r = ticks (ldx (rung b) k) → K (.a (.flt .f64 r)) []) → Go.Eng.Fn Try.prog ro 54 [.a (.flt .f64 b), .a (.int .i64 (k : Int))] [] K := by
    intro b c0 ht hK
    refine Go.Eng.Fn.weak ?_
    refine Go.Eng.Fn.of_code (gOf []) Try.func54 rfl (Nat.le_of_ble_eq_true rfl) ?_
    conv => whnf
    repeat' (first
      | ((with_reducible refine regx_of ?_ ?_); (· decide +kernel); conv => whnf)
      | ((with_reducible refine growx_pre ?_ ?_); (· exact ⟨_, rfl⟩); conv => whnf)
      | ((with_reducible refine needm_of ?_ ?_); (· first | assumption | exact decide_eq_true (by omega) | exact mkOK_of (by decide) | decide +kernel | (refine decide_eq_true ?_; simp (disch := omega) only [i64w]; omega)); conv => whnf)
      | ((with_reducible refine condm_pos ?_ ?_); (· assumption); conv => whnf)
      | ((with_reducible refine condm_neg ?_ ?_); (· assumption); conv => whnf)
      | ((with_reducible refine forceL_fv (by assumption) ?_); conv => whnf)
      | ((with_reducible refine forceL_rfv (by assumption) ?_); conv => whnf)
      | ((with_reducible refine forceNm_of ?_); conv => whnf)
      | ((with_reducible refine needm_of (fv_lenL (by assumption) (by assumption)) ?_); conv => whnf)
      | ((with_reducible refine optm_var (fv_strL (by assumption) (by assumption)) (fun s hs => ?_)); conv => whnf)
      | ((with_reducible refine forceA_of ?_); conv => whnf)
      | ((with_reducible refine forceL_pl (by assumption) ?_); conv => whnf)
      | ((with_reducible refine forceL_rpl (by assumption) ?_); conv => whnf)
      | ((with_reducible refine fltx_of (fun r hr => ?_)); conv => whnf)
      | ((refine ext_bits (by rfl) bits_n bits_f ?_); conv => whnf)
      | ((refine ext_from (by rfl) from_n from_f ?_); conv => whnf)
      | fail)
    exact keepOf (v₀ := .a (.flt .f64 b)) [] [] rfl trivial rfl (hK b ht)
  rcases at_form hz h0 hb with ⟨h1, _⟩ | ⟨h1, _⟩
  · have er := (sgn_pos h1).2
    rw [er] at hK
    rcases Nat.lt_or_ge b bInf with h2 | h2
    · rcases Nat.lt_or_ge b 1 with h3 | h3
      · obtain rfl : b = 0 := by omega
        exact nought 0 (by unfold fEqK; decide +kernel) (by rw [er, ldx_zero]) (by rw [er]; exact hK)
      · rcases Nat.lt_or_ge b 4503599627370496 with h4 | h4
        · exact ldexp54s b k h3 h4 hk (hK _ rfl)
        · have vk := vmag_norm (k := k) h4
          refine ldexp54n b k h2 h4 hk (fun h r hr => ?_) (fun h => ?_)
          · have hI : b + k * 4503599627370496 < bInf := by unfold bInf; omega
            have e0 := mul_pow hI read_1 hr
            rw [ldx_0] at e0
            rw [e0, ldx_of h2 hI vk]
            exact hK _ rfl
          · have hI : bInf ≤ b + k * 4503599627370496 := by unfold bInf; omega
            have := vmag_le hI
            rw [vk] at this
            rcases ldx_mul h2 k with ⟨q1, q2⟩ | ⟨q1, q2⟩
            · have := vmag_lt q1
              omega
            · exact hK _ (by rw [q1]; rfl)
    · obtain rfl : b = bInf := by omega
      have hK' := hK bInf (by rw [ldx_inf])
      have c0 : fEqK .f64 9218868437227405312 0 = false := by unfold fEqK; decide +kernel
      have c1 : isInf 9218868437227405312 = true := by unfold isInf fGtK absF; decide +kernel
      have c2 : ∀ b : Nat, b < 18446744073709551616 → fEqK .f64 b 0 = false → isInf b = true → K (.a (.flt .f64 b)) [] → Go.Eng.Fn Try.prog ro 54 [.a (.flt .f64 b), .a (.int .i64 (k : Int))] [] K := by
        intro b hb c0 c1 hK
        refine Go.Eng.Fn.weak ?_
        refine Go.Eng.Fn.of_code (gOf []) Try.func54 rfl (Nat.le_of_ble_eq_true rfl) ?_
        conv => whnf
        repeat' (first
          | ((with_reducible refine regx_of ?_ ?_); (· decide +kernel); conv => whnf)
          | ((with_reducible refine growx_pre ?_ ?_); (· exact ⟨_, rfl⟩); conv => whnf)
          | ((with_reducible refine needm_of ?_ ?_); (· first | assumption | exact decide_eq_true (by omega) | exact mkOK_of (by decide) | decide +kernel | (refine decide_eq_true ?_; simp (disch := omega) only [i64w]; omega)); conv => whnf)
          | ((with_reducible refine condm_pos ?_ ?_); (· assumption); conv => whnf)
          | ((with_reducible refine condm_neg ?_ ?_); (· assumption); conv => whnf)
          | ((with_reducible refine forceL_fv (by assumption) ?_); conv => whnf)
          | ((with_reducible refine forceL_rfv (by assumption) ?_); conv => whnf)
          | ((with_reducible refine forceNm_of ?_); conv => whnf)
          | ((with_reducible refine needm_of (fv_lenL (by assumption) (by assumption)) ?_); conv => whnf)
          | ((with_reducible refine optm_var (fv_strL (by assumption) (by assumption)) (fun s hs => ?_)); conv => whnf)
          | ((with_reducible refine forceA_of ?_); conv => whnf)
          | ((with_reducible refine forceL_pl (by assumption) ?_); conv => whnf)
          | ((with_reducible refine forceL_rpl (by assumption) ?_); conv => whnf)
          | ((with_reducible refine fltx_of (fun r hr => ?_)); conv => whnf)
          | ((refine ext_bits (by rfl) bits_n bits_f ?_); conv => whnf)
          | ((refine ext_from (by rfl) from_n from_f ?_); conv => whnf)
          | fail)
        refine Go.Eng.Fn.frame [] (by rfl) (by exact trivial) (by rfl) (isinf28 b (by omega) ?_)
        conv => whnf
        repeat' (first
          | ((with_reducible refine regx_of ?_ ?_); (· decide +kernel); conv => whnf)
          | ((with_reducible refine growx_pre ?_ ?_); (· exact ⟨_, rfl⟩); conv => whnf)
          | ((with_reducible refine needm_of ?_ ?_); (· first | assumption | exact decide_eq_true (by omega) | exact mkOK_of (by decide) | decide +kernel | (refine decide_eq_true ?_; simp (disch := omega) only [i64w]; omega)); conv => whnf)
          | ((with_reducible refine condm_pos ?_ ?_); (· assumption); conv => whnf)
          | ((with_reducible refine condm_neg ?_ ?_); (· assumption); conv => whnf)
          | ((with_reducible refine forceL_fv (by assumption) ?_); conv => whnf)
          | ((with_reducible refine forceL_rfv (by assumption) ?_); conv => whnf)
          | ((with_reducible refine forceNm_of ?_); conv => whnf)
          | ((with_reducible refine needm_of (fv_lenL (by assumption) (by assumption)) ?_); conv => whnf)
          | ((with_reducible refine optm_var (fv_strL (by assumption) (by assumption)) (fun s hs => ?_)); conv => whnf)
          | ((with_reducible refine forceA_of ?_); conv => whnf)
          | ((with_reducible refine forceL_pl (by assumption) ?_); conv => whnf)
          | ((with_reducible refine forceL_rpl (by assumption) ?_); conv => whnf)
          | ((with_reducible refine fltx_of (fun r hr => ?_)); conv => whnf)
          | ((refine ext_bits (by rfl) bits_n bits_f ?_); conv => whnf)
          | ((refine ext_from (by rfl) from_n from_f ?_); conv => whnf)
          | fail)
        exact keepOf (v₀ := .a (.flt .f64 b)) [] [] rfl trivial rfl hK
      exact c2 _ hb c0 c1 hK'
  · subst h1
    have er : rung 9223372036854775808 = 0 := by decide
    exact nought _ (by unfold fEqK; decide +kernel) (by rw [er, ldx_zero, ticks_m0, ticks_0]) hK
set_option maxHeartbeats 400000 in
theorem ldexp41t (b k : Nat) (hb : b < 18446744073709551616) {z : Int} (hz : fkey b = some z) (h0 : 0 ≤ z) (hk : k ≤ 10) {K : V → Hp → Prop} (hK : ∀ r, ticks r = ticks (ldx (rung b) k) → K (.a (.flt .f64 r)) []) : Go.Eng.Fn Try.prog ro 41 [.a (.flt .f64 b), .a (.int .i64 (k : Int))] [] K := by
  refine Go.Eng.Fn.weak ?_
  refine Go.Eng.Fn.of_code (gOf []) Try.func41 rfl (Nat.le_of_ble_eq_true rfl) ?_
  conv => whnf
  repeat' (first
    | ((with_reducible refine regx_of ?_ ?_); (· decide +kernel); conv => whnf)
    | ((with_reducible refine growx_pre ?_ ?_); (· exact ⟨_, rfl⟩); conv => whnf)
    | ((with_reducible refine needm_of ?_ ?_); (· first | assumption | exact decide_eq_true (by omega) | exact mkOK_of (by decide) | decide +kernel | (refine decide_eq_true ?_; simp (disch := omega) only [i64w]; omega)); conv => whnf)
    | ((with_reducible refine condm_pos ?_ ?_); (· assumption); conv => whnf)
    | ((with_reducible refine condm_neg ?_ ?_); (· assumption); conv => whnf)
    | ((with_reducible refine forceL_fv (by assumption) ?_); conv => whnf)
    | ((with_reducible refine forceL_rfv (by assumption) ?_); conv => whnf)
    | ((with_reducible refine forceNm_of ?_); conv => whnf)
    | ((with_reducible refine needm_of (fv_lenL (by assumption) (by assumption)) ?_); conv => whnf)
    | ((with_reducible refine optm_var (fv_strL (by assumption) (by assumption)) (fun s hs => ?_)); conv => whnf)
    | ((with_reducible refine forceA_of ?_); conv => whnf)
    | ((with_reducible refine forceL_pl (by assumption) ?_); conv => whnf)
    | ((with_reducible refine forceL_rpl (by assumption) ?_); conv => whnf)
    | ((with_reducible refine fltx_of (fun r hr => ?_)); conv => whnf)
    | ((refine ext_bits (by rfl) bits_n bits_f ?_); conv => whnf)
    | ((refine ext_from (by rfl) from_n from_f ?_); conv => whnf)
    | fail)
  refine Go.Eng.Fn.frame [] (by rfl) (by exact trivial) (by rfl) (ldexp54t b k hb hz h0 hk (fun r hr => ?_))
  conv => whnf
  repeat' (first
    | ((with_reducible refine regx_of ?_ ?_); (· decide +kernel); conv => whnf)
    | ((with_reducible refine growx_pre ?_ ?_); (· exact ⟨_, rfl⟩); conv => whnf)
    | ((with_reducible refine needm_of ?_ ?_); (· first | assumption | exact decide_eq_true (by omega) | exact mkOK_of (by decide) | decide +kernel | (refine decide_eq_true ?_; simp (disch := omega) only [i64w]; omega)); conv => whnf)
    | ((with_reducible refine condm_pos ?_ ?_); (· assumption); conv => whnf)
    | ((with_reducible refine condm_neg ?_ ?_); (· assumption); conv => whnf)
    | ((with_reducible refine forceL_fv (by assumption) ?_); conv => whnf)
    | ((with_reducible refine forceL_rfv (by assumption) ?_); conv => whnf)
    | ((with_reducible refine forceNm_of ?_); conv => whnf)
    | ((with_reducible refine needm_of (fv_lenL (by assumption) (by assumption)) ?_); conv => whnf)
    | ((with_reducible refine optm_var (fv_strL (by assumption) (by assumption)) (fun s hs => ?_)); conv => whnf)
    | ((with_reducible refine forceA_of ?_); conv => whnf)
    | ((with_reducible refine forceL_pl (by assumption) ?_); conv => whnf)
    | ((with_reducible refine forceL_rpl (by assumption) ?_); conv => whnf)
    | ((with_reducible refine fltx_of (fun r hr => ?_)); conv => whnf)
    | ((refine ext_bits (by rfl) bits_n bits_f ?_); conv => whnf)
    | ((refine ext_from (by rfl) from_n from_f ?_); conv => whnf)
    | fail)
  exact keepOf (v₀ := .a (.flt .f64 r)) [] [] rfl trivial rfl (hK r hr)
theorem wait24g (P : List Pt) (cs : List A) (n : Nat) (mk : Bool) (hcs : cs = prow P) (hn : n = P.length) (hn5 : n ≤ 5) (hg : ∀ x ∈ P, Good x) (hd : ∀ x ∈ P, 0 ≤ x.dbl ∧ x.dbl ≤ 10) (i : Int) {K : V → Hp → Prop}
    (hK1 : ¬ (1 ≤ i ∧ i ≤ n) → K (.a (.int .i64 0)) [.cells cs 73 mk, .cells [.slc 0 0 n n] 68 false])
    (hK2 : ∀ k x, P[k]? = some x → i = ((k + 1 : Nat) : Int) → ∀ q : Nat, q = wt x x.dbl.toNat → K (.a (.int .i64 (q : Int))) [.cells cs 73 mk, .cells [.slc 0 0 n n] 68 false]) :
    Go.Eng.Fn Try.prog ro 24 [.a (.ptr 1 0), .a (.int .i64 i)] [.cells cs 73 mk, .cells [.slc 0 0 n n] 68 false] K := by
  refine wait24 P cs n mk hcs hn hn5 i hK1 (fun k x hx e b hb => ?_)
  have hm := List.mem_of_getElem? hx
  obtain ⟨e1, e2, z, e3, e4⟩ := wbase_wb (hg x hm) hb
  have hdx := hd x hm
  obtain ⟨d, hdd⟩ : ∃ d : Nat, x.dbl = d := ⟨x.dbl.toNat, by omega⟩
  have h2 := hK2 k x hx e
  unfold wt at h2
  rw [hdd] at h2 ⊢
  rw [Int.toNat_natCast, ← e1] at h2
  exact ldexp41t b d e2 e3 e4 (by omega) (fun r hr => ⟨r, rfl, rfl, h2 (ticks r) hr⟩)
end
end Go.Proofs.Ytmnimmhpclhmfaa.PC
