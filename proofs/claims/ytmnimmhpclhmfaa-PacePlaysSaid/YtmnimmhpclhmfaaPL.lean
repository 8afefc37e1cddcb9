import Derived.Test.YtmnimmhpclhmfaaPW
namespace Go.Proofs.Ytmnimmhpclhmfaa.PC
open Go.Eng
set_option maxRecDepth 100000
/-! ### Bits. -/
theorem ofIntN (b : Nat) (hb : b < 18446744073709551616) : (BitVec.ofInt 64 (b : Int)).toNat = b := by
  rw [BitVec.toNat_ofInt]; omega
theorem and_2047 {e : Nat} (he : e < 2048) : bitx .and .i64 (e : Int) 2047 = (e : Int) := by
  unfold bitx
  simp only
  have e1 : (BitVec.ofInt IntKind.i64.bits (e : Int)).toNat = e := ofIntN e (by omega)
  have e2 : (BitVec.ofInt IntKind.i64.bits 2047).toNat = 2 ^ 11 - 1 := by decide
  rw [BitVec.toNat_and, e1, e2, Nat.and_two_pow_sub_one_eq_mod, Nat.mod_eq_of_lt he]
  exact i64w (by omega) (by omega)
theorem andNot_exp {b : Nat} (hb : b < 9223372036854775808) : bitx .andNot .u64 (b : Int) 9218868437227405312 = ((b % 4503599627370496 : Nat) : Int) := by
  unfold bitx
  simp only
  have e1 : (BitVec.ofInt IntKind.u64.bits (b : Int)).toNat = b := ofIntN b (by omega)
  have e2 : (~~~ BitVec.ofInt IntKind.u64.bits 9218868437227405312 : BitVec IntKind.u64.bits).toNat = 2 ^ 63 ||| (2 ^ 52 - 1) := by decide
  have e3 : b &&& 2 ^ 63 = 0 := by
    have hb63 : b.testBit 63 = false := Nat.testBit_lt_two_pow (by omega)
    apply Nat.eq_of_testBit_eq
    intro i
    rw [Nat.testBit_and, Nat.testBit_two_pow, Nat.zero_testBit]
    by_cases e : 63 = i
    · subst e; rw [hb63]; rfl
    · simp [e]
  rw [BitVec.toNat_and, e1, e2, Nat.and_or_distrib_left, e3, Nat.zero_or, Nat.and_two_pow_sub_one_eq_mod, u64w]
  congr 1
  omega
theorem or_field {a e : Nat} (ha : a < 4503599627370496) (he : e < 2048) : bitx .or .u64 (a : Int) ((e * 4503599627370496 : Nat) : Int) = ((a + e * 4503599627370496 : Nat) : Int) := by
  unfold bitx
  simp only
  have e1 : (BitVec.ofInt IntKind.u64.bits (a : Int)).toNat = a := ofIntN a (by omega)
  have e2 : (BitVec.ofInt IntKind.u64.bits ((e * 4503599627370496 : Nat) : Int)).toNat = e * 4503599627370496 := ofIntN _ (by omega)
  rw [BitVec.toNat_or, e1, e2, u64w]
  have e3 : a ||| e * 4503599627370496 = a + e * 4503599627370496 := by
    have := Nat.two_pow_add_eq_or_of_lt (i := 52) (b := a) (by omega) e
    rw [Nat.or_comm, Nat.mul_comm, Nat.add_comm a]
    exact this.symm
  rw [e3]
  congr 1
  omega
section
variable {ro : Addr → A → Prop}
set_option maxHeartbeats 400000 in
theorem normalize58 (b : Nat) (hb : b < 18446744073709551616) (h : fLtK .f64 (absF b) 4503599627370496 = false) {K : V → Hp → Prop} (hK : K (.t [.a (.flt .f64 b), .a (.int .i64 0)]) []) : Go.Eng.Fn Try.prog ro 58 [.a (.flt .f64 b)] [] K := by
  refine Go.Eng.Fn.weak ?_
  refine Go.Eng.Fn.of_code (gOf []) Try.func58 rfl (Nat.le_of_ble_eq_true rfl) ?_
  conv => whnf
  repeat' (first
    | ((with_reducible refine regx_of ?_ ?_); (· decide +kernel); conv => whnf)
    | ((with_reducible refine growx_pre ?_ ?_); (· exact ⟨_, rfl⟩); conv => whnf)
    | ((with_reducible refine needm_of ?_ ?_); (· first | assumption | exact decide_eq_true (by omega) | exact mkOK_of (by decide) | decide +kernel | (refine decide_eq_true ?_; simp (disch := omega) only [i64w]; omega)); conv => whnf)
    | ((with_reducible refine condm_pos ?_ ?_); (· assumption); conv => whnf)
    | ((with_reducible refine condm_neg ?_ ?_); (· assumption); conv => whnf)
    | ((with_reducible refine forceL_fv (by assumption) ?_); conv => whnf)
    | ((with_reducible refine forceL_rfv (by assumption) ?_); conv => whnf)
    | ((with_reducible refine forceNm_of ?_); conv => whnf)
    | ((with_reducible refine needm_of (fv_lenL (by assumption) (by assumption)) ?_); conv => whnf)
    | ((with_reducible refine optm_var (fv_strL (by assumption) (by assumption)) (fun s hs => ?_)); conv => whnf)
    | ((with_reducible refine forceA_of ?_); conv => whnf)
    | ((with_reducible refine forceL_pl (by assumption) ?_); conv => whnf)
    | ((with_reducible refine forceL_rpl (by assumption) ?_); conv => whnf)
    | ((with_reducible refine fltx_of (fun r hr => ?_)); conv => whnf)
    | ((refine ext_bits (by rfl) bits_n bits_f ?_); conv => whnf)
    | ((refine ext_from (by rfl) from_n from_f ?_); conv => whnf)
    | fail)
  refine Go.Eng.Fn.frame [] (by rfl) (by exact trivial) (by rfl) (abs40 b hb ?_)
  conv => whnf
  repeat' (first
    | ((with_reducible refine regx_of ?_ ?_); (· decide +kernel); conv => whnf)
    | ((with_reducible refine growx_pre ?_ ?_); (· exact ⟨_, rfl⟩); conv => whnf)
    | ((with_reducible refine needm_of ?_ ?_); (· first | assumption | exact decide_eq_true (by omega) | exact mkOK_of (by decide) | decide +kernel | (refine decide_eq_true ?_; simp (disch := omega) only [i64w]; omega)); conv => whnf)
    | ((with_reducible refine condm_pos ?_ ?_); (· assumption); conv => whnf)
    | ((with_reducible refine condm_neg ?_ ?_); (· assumption); conv => whnf)
    | ((with_reducible refine forceL_fv (by assumption) ?_); conv => whnf)
    | ((with_reducible refine forceL_rfv (by assumption) ?_); conv => whnf)
    | ((with_reducible refine forceNm_of ?_); conv => whnf)
    | ((with_reducible refine needm_of (fv_lenL (by assumption) (by assumption)) ?_); conv => whnf)
    | ((with_reducible refine optm_var (fv_strL (by assumption) (by assumption)) (fun s hs => ?_)); conv => whnf)
    | ((with_reducible refine forceA_of ?_); conv => whnf)
    | ((with_reducible refine forceL_pl (by assumption) ?_); conv => whnf)
    | ((with_reducible refine forceL_rpl (by assumption) ?_); conv => whnf)
    | ((with_reducible refine fltx_of (fun r hr => ?_)); conv => whnf)
    | ((refine ext_bits (by rfl) bits_n bits_f ?_); conv => whnf)
    | ((refine ext_from (by rfl) from_n from_f ?_); conv => whnf)
    | fail)
  exact keepOf (v₀ := .t [.a (.flt .f64 b), .a (.int .i64 0)]) [] [] rfl trivial rfl hK
set_option maxHeartbeats 400000 in
theorem ldexp54n (b k : Nat) (hb : b < bInf) (hb1 : 4503599627370496 ≤ b) (hk : k ≤ 10) {K : V → Hp → Prop}
    (hK1 : b / 4503599627370496 + k ≤ 2046 → ∀ r, Ans (FloatKind.f64.format.mul 4607182418800017408 (b + k * 4503599627370496)) r → K (.a (.flt .f64 r)) [])
    (hK2 : 2046 < b / 4503599627370496 + k → K (.a (.flt .f64 9218868437227405312)) []) : Go.Eng.Fn Try.prog ro 54 [.a (.flt .f64 b), .a (.int .i64 (k : Int))] [] K := by
  have hbI : b < 9218868437227405312 := hb
  have hr : rung b = b := Nat.mod_eq_of_lt (by unfold bSign; omega)
  have hs : sgn b = false := by unfold sgn bSign; rw [Nat.div_eq_of_lt (by omega)]; rfl
  have hf : fkey b = some (b : Int) := by rw [fkey_pos (by rw [hr]; omega) hs, hr]
  have c0 : fEqK .f64 b 0 = false := by
    rw [fEq_key, hf]
    show decide ((b : Int) = 0) = false
    exact decide_eq_false (by omega)
  have c1 : isInf b = false := by
    have := fin_eq b
    have h2 : fin b = true := by unfold fin; rw [hr]; exact decide_eq_true hb
    rw [h2] at this
    simp at this
    exact this.2
  have c2 : isNan b = false := by rw [fkey_nan, hf]; rfl
  have ha : absF b = b := by unfold absF; exact Nat.mod_eq_of_lt (by unfold bSign; omega)
  have c3 : fLtK .f64 (absF b) 4503599627370496 = false := by
    rw [ha, fLt_key, hf]
    show decide ((b : Int) < 4503599627370496) = false
    exact decide_eq_false (by omega)
  have c4 : fLtK .f64 b 0 = false := by
    rw [fLt_key, hf]
    show decide ((b : Int) < 0) = false
    exact decide_eq_false (by omega)
  refine Go.Eng.Fn.weak ?_
  refine Go.Eng.Fn.of_code (gOf []) Try.func54 rfl (Nat.le_of_ble_eq_true rfl) ?_
  conv => whnf
  repeat' (first
    | ((with_reducible refine regx_of ?_ ?_); (· decide +kernel); conv => whnf)
    | ((with_reducible refine growx_pre ?_ ?_); (· exact ⟨_, rfl⟩); conv => whnf)
    | ((with_reducible refine needm_of ?_ ?_); (· first | assumption | exact decide_eq_true (by omega) | exact mkOK_of (by decide) | decide +kernel | (refine decide_eq_true ?_; simp (disch := omega) only [i64w]; omega)); conv => whnf)
    | ((with_reducible refine condm_pos ?_ ?_); (· assumption); conv => whnf)
    | ((with_reducible refine condm_neg ?_ ?_); (· assumption); conv => whnf)
    | ((with_reducible refine forceL_fv (by assumption) ?_); conv => whnf)
    | ((with_reducible refine forceL_rfv (by assumption) ?_); conv => whnf)
    | ((with_reducible refine forceNm_of ?_); conv => whnf)
    | ((with_reducible refine needm_of (fv_lenL (by assumption) (by assumption)) ?_); conv => whnf)
    | ((with_reducible refine optm_var (fv_strL (by assumption) (by assumption)) (fun s hs => ?_)); conv => whnf)
    | ((with_reducible refine forceA_of ?_); conv => whnf)
    | ((with_reducible refine forceL_pl (by assumption) ?_); conv => whnf)
    | ((with_reducible refine forceL_rpl (by assumption) ?_); conv => whnf)
    | ((with_reducible refine fltx_of (fun r hr => ?_)); conv => whnf)
    | ((refine ext_bits (by rfl) bits_n bits_f ?_); conv => whnf)
    | ((refine ext_from (by rfl) from_n from_f ?_); conv => whnf)
    | fail)
  refine Go.Eng.Fn.frame [] (by rfl) (by exact trivial) (by rfl) (isinf28 b (by omega) ?_)
  conv => whnf
  repeat' (first
    | ((with_reducible refine regx_of ?_ ?_); (· decide +kernel); conv => whnf)
    | ((with_reducible refine growx_pre ?_ ?_); (· exact ⟨_, rfl⟩); conv => whnf)
    | ((with_reducible refine needm_of ?_ ?_); (· first | assumption | exact decide_eq_true (by omega) | exact mkOK_of (by decide) | decide +kernel | (refine decide_eq_true ?_; simp (disch := omega) only [i64w]; omega)); conv => whnf)
    | ((with_reducible refine condm_pos ?_ ?_); (· assumption); conv => whnf)
    | ((with_reducible refine condm_neg ?_ ?_); (· assumption); conv => whnf)
    | ((with_reducible refine forceL_fv (by assumption) ?_); conv => whnf)
    | ((with_reducible refine forceL_rfv (by assumption) ?_); conv => whnf)
    | ((with_reducible refine forceNm_of ?_); conv => whnf)
    | ((with_reducible refine needm_of (fv_lenL (by assumption) (by assumption)) ?_); conv => whnf)
    | ((with_reducible refine optm_var (fv_strL (by assumption) (by assumption)) (fun s hs => ?_)); conv => whnf)
    | ((with_reducible refine forceA_of ?_); conv => whnf)
    | ((with_reducible refine forceL_pl (by assumption) ?_); conv => whnf)
    | ((with_reducible refine forceL_rpl (by assumption) ?_); conv => whnf)
    | ((with_reducible refine fltx_of (fun r hr => ?_)); conv => whnf)
    | ((refine ext_bits (by rfl) bits_n bits_f ?_); conv => whnf)
    | ((refine ext_from (by rfl) from_n from_f ?_); conv => whnf)
    | fail)
  refine Go.Eng.Fn.frame [] (by rfl) (by exact trivial) (by rfl) (isnan32 b ?_)
  conv => whnf
  repeat' (first
    | ((with_reducible refine regx_of ?_ ?_); (· decide +kernel); conv => whnf)
    | ((with_reducible refine growx_pre ?_ ?_); (· exact ⟨_, rfl⟩); conv => whnf)
    | ((with_reducible refine needm_of ?_ ?_); (· first | assumption | exact decide_eq_true (by omega) | exact mkOK_of (by decide) | decide +kernel | (refine decide_eq_true ?_; simp (disch := omega) only [i64w]; omega)); conv => whnf)
    | ((with_reducible refine condm_pos ?_ ?_); (· assumption); conv => whnf)
    | ((with_reducible refine condm_neg ?_ ?_); (· assumption); conv => whnf)
    | ((with_reducible refine forceL_fv (by assumption) ?_); conv => whnf)
    | ((with_reducible refine forceL_rfv (by assumption) ?_); conv => whnf)
    | ((with_reducible refine forceNm_of ?_); conv => whnf)
    | ((with_reducible refine needm_of (fv_lenL (by assumption) (by assumption)) ?_); conv => whnf)
    | ((with_reducible refine optm_var (fv_strL (by assumption) (by assumption)) (fun s hs => ?_)); conv => whnf)
    | ((with_reducible refine forceA_of ?_); conv => whnf)
    | ((with_reducible refine forceL_pl (by assumption) ?_); conv => whnf)
    | ((with_reducible refine forceL_rpl (by assumption) ?_); conv => whnf)
    | ((with_reducible refine fltx_of (fun r hr => ?_)); conv => whnf)
    | ((refine ext_bits (by rfl) bits_n bits_f ?_); conv => whnf)
    | ((refine ext_from (by rfl) from_n from_f ?_); conv => whnf)
    | fail)
  refine Go.Eng.Fn.frame [] (by rfl) (by exact trivial) (by rfl) (normalize58 b (by omega) c3 ?_)
  conv => whnf
  repeat' (first
    | ((with_reducible refine regx_of ?_ ?_); (· decide +kernel); conv => whnf)
    | ((with_reducible refine growx_pre ?_ ?_); (· exact ⟨_, rfl⟩); conv => whnf)
    | ((with_reducible refine needm_of ?_ ?_); (· first | assumption | exact decide_eq_true (by omega) | exact mkOK_of (by decide) | decide +kernel | (refine decide_eq_true ?_; simp (disch := omega) only [i64w]; omega)); conv => whnf)
    | ((with_reducible refine condm_pos ?_ ?_); (· assumption); conv => whnf)
    | ((with_reducible refine condm_neg ?_ ?_); (· assumption); conv => whnf)
    | ((with_reducible refine forceL_fv (by assumption) ?_); conv => whnf)
    | ((with_reducible refine forceL_rfv (by assumption) ?_); conv => whnf)
    | ((with_reducible refine forceNm_of ?_); conv => whnf)
    | ((with_reducible refine needm_of (fv_lenL (by assumption) (by assumption)) ?_); conv => whnf)
    | ((with_reducible refine optm_var (fv_strL (by assumption) (by assumption)) (fun s hs => ?_)); conv => whnf)
    | ((with_reducible refine forceA_of ?_); conv => whnf)
    | ((with_reducible refine forceL_pl (by assumption) ?_); conv => whnf)
    | ((with_reducible refine forceL_rpl (by assumption) ?_); conv => whnf)
    | ((with_reducible refine fltx_of (fun r hr => ?_)); conv => whnf)
    | ((refine ext_bits (by rfl) bits_n bits_f ?_); conv => whnf)
    | ((refine ext_from (by rfl) from_n from_f ?_); conv => whnf)
    | fail)
  have h1 : (b : Int).fdiv (2 ^ min (Int.toNat 52) IntKind.u64.bits) = ((b / 4503599627370496 : Nat) : Int) := fdivN b 4503599627370496
  have hE1 : 1 ≤ b / 4503599627370496 := by omega
  have hE2 : b / 4503599627370496 ≤ 2046 := by omega
  generalize hE : b / 4503599627370496 = e at *
  have hX : IntKind.i64.wrap (IntKind.i64.wrap (↑k + 0) + IntKind.i64.wrap (bitx BinOp.and IntKind.i64 (IntKind.i64.wrap ((b : Int).fdiv (2 ^ min (Int.toNat 52) IntKind.u64.bits))) 2047 - 1023)) = (e : Int) + k - 1023 := by
    rw [h1, i64w (x := (e : Int)) (by omega) (by omega), and_2047 (by omega), i64w (x := (e : Int) - 1023) (by omega) (by omega), i64w (x := (k : Int) + 0) (by omega) (by omega), i64w (by omega) (by omega)]
    omega
  have c5 : decide ((e : Int) + k - 1023 < -1075) = false := decide_eq_false (by omega)
  have c7 : decide ((e : Int) + k - 1023 < -1022) = false := decide_eq_false (by omega)
  rw [hX]
  by_cases hk2 : 2046 < e + k
  · have c6 : decide ((e : Int) + k - 1023 > 1023) = true := decide_eq_true (by omega)
    conv => whnf
    repeat' (first
      | ((with_reducible refine regx_of ?_ ?_); (· decide +kernel); conv => whnf)
      | ((with_reducible refine growx_pre ?_ ?_); (· exact ⟨_, rfl⟩); conv => whnf)
      | ((with_reducible refine needm_of ?_ ?_); (· first | assumption | exact decide_eq_true (by omega) | exact mkOK_of (by decide) | decide +kernel | (refine decide_eq_true ?_; simp (disch := omega) only [i64w]; omega)); conv => whnf)
      | ((with_reducible refine condm_pos ?_ ?_); (· assumption); conv => whnf)
      | ((with_reducible refine condm_neg ?_ ?_); (· assumption); conv => whnf)
      | ((with_reducible refine forceL_fv (by assumption) ?_); conv => whnf)
      | ((with_reducible refine forceL_rfv (by assumption) ?_); conv => whnf)
      | ((with_reducible refine forceNm_of ?_); conv => whnf)
      | ((with_reducible refine needm_of (fv_lenL (by assumption) (by assumption)) ?_); conv => whnf)
      | ((with_reducible refine optm_var (fv_strL (by assumption) (by assumption)) (fun s hs => ?_)); conv => whnf)
      | ((with_reducible refine forceA_of ?_); conv => whnf)
      | ((with_reducible refine forceL_pl (by assumption) ?_); conv => whnf)
      | ((with_reducible refine forceL_rpl (by assumption) ?_); conv => whnf)
      | ((with_reducible refine fltx_of (fun r hr => ?_)); conv => whnf)
      | ((refine ext_bits (by rfl) bits_n bits_f ?_); conv => whnf)
      | ((refine ext_from (by rfl) from_n from_f ?_); conv => whnf)
      | fail)
    refine Go.Eng.Fn.frame [] (by rfl) (by exact trivial) (by rfl) (inf20 ?_)
    conv => whnf
    repeat' (first
      | ((with_reducible refine regx_of ?_ ?_); (· decide +kernel); conv => whnf)
      | ((with_reducible refine growx_pre ?_ ?_); (· exact ⟨_, rfl⟩); conv => whnf)
      | ((with_reducible refine needm_of ?_ ?_); (· first | assumption | exact decide_eq_true (by omega) | exact mkOK_of (by decide) | decide +kernel | (refine decide_eq_true ?_; simp (disch := omega) only [i64w]; omega)); conv => whnf)
      | ((with_reducible refine condm_pos ?_ ?_); (· assumption); conv => whnf)
      | ((with_reducible refine condm_neg ?_ ?_); (· assumption); conv => whnf)
      | ((with_reducible refine forceL_fv (by assumption) ?_); conv => whnf)
      | ((with_reducible refine forceL_rfv (by assumption) ?_); conv => whnf)
      | ((with_reducible refine forceNm_of ?_); conv => whnf)
      | ((with_reducible refine needm_of (fv_lenL (by assumption) (by assumption)) ?_); conv => whnf)
      | ((with_reducible refine optm_var (fv_strL (by assumption) (by assumption)) (fun s hs => ?_)); conv => whnf)
      | ((with_reducible refine forceA_of ?_); conv => whnf)
      | ((with_reducible refine forceL_pl (by assumption) ?_); conv => whnf)
      | ((with_reducible refine forceL_rpl (by assumption) ?_); conv => whnf)
      | ((with_reducible refine fltx_of (fun r hr => ?_)); conv => whnf)
      | ((refine ext_bits (by rfl) bits_n bits_f ?_); conv => whnf)
      | ((refine ext_from (by rfl) from_n from_f ?_); conv => whnf)
      | fail)
    exact keepOf (v₀ := .a (.flt .f64 9218868437227405312)) [] [] rfl trivial rfl (hK2 hk2)
  · have c6 : decide ((e : Int) + k - 1023 > 1023) = false := decide_eq_false (by omega)
    conv => whnf
    repeat' (first
      | ((with_reducible refine regx_of ?_ ?_); (· decide +kernel); conv => whnf)
      | ((with_reducible refine growx_pre ?_ ?_); (· exact ⟨_, rfl⟩); conv => whnf)
      | ((with_reducible refine needm_of ?_ ?_); (· first | assumption | exact decide_eq_true (by omega) | exact mkOK_of (by decide) | decide +kernel | (refine decide_eq_true ?_; simp (disch := omega) only [i64w]; omega)); conv => whnf)
      | ((with_reducible refine condm_pos ?_ ?_); (· assumption); conv => whnf)
      | ((with_reducible refine condm_neg ?_ ?_); (· assumption); conv => whnf)
      | ((with_reducible refine forceL_fv (by assumption) ?_); conv => whnf)
      | ((with_reducible refine forceL_rfv (by assumption) ?_); conv => whnf)
      | ((with_reducible refine forceNm_of ?_); conv => whnf)
      | ((with_reducible refine needm_of (fv_lenL (by assumption) (by assumption)) ?_); conv => whnf)
      | ((with_reducible refine optm_var (fv_strL (by assumption) (by assumption)) (fun s hs => ?_)); conv => whnf)
      | ((with_reducible refine forceA_of ?_); conv => whnf)
      | ((with_reducible refine forceL_pl (by assumption) ?_); conv => whnf)
      | ((with_reducible refine forceL_rpl (by assumption) ?_); conv => whnf)
      | ((with_reducible apply optm_of); (· first | exact g0 | exact g1 | exact g2 | exact g3 | exact g4 | exact g5 | exact g6); conv => whnf)
      | fail)
    have hY : bitx BinOp.or IntKind.u64 (bitx BinOp.andNot IntKind.u64 (b : Int) 9218868437227405312) (IntKind.u64.wrap (IntKind.u64.wrap (IntKind.i64.wrap ((e : Int) + k - 1023 + 1023)) * 2 ^ min (Int.toNat 52) IntKind.u64.bits)) = ((b + k * 4503599627370496 : Nat) : Int) := by
      have a1 : IntKind.i64.wrap ((e : Int) + k - 1023 + 1023) = ((e + k : Nat) : Int) := by rw [i64w (by omega) (by omega)]; omega
      have a2 : ((e + k : Nat) : Int) * 2 ^ min (Int.toNat 52) IntKind.u64.bits = (((e + k) * 4503599627370496 : Nat) : Int) := by
        show ((e + k : Nat) : Int) * 4503599627370496 = _
        omega
      rw [andNot_exp (by omega), a1, u64w, Nat.mod_eq_of_lt (show e + k < 18446744073709551616 by omega), a2, u64w, Nat.mod_eq_of_lt (show (e + k) * 4503599627370496 < 18446744073709551616 by omega), or_field (by omega) (by omega)]
      congr 1
      omega
    rw [hY]
    refine ext_from (by rfl) from_n from_f ?_
    rw [Int.toNat_natCast]
    conv => whnf
    repeat' (first
      | ((with_reducible refine regx_of ?_ ?_); (· decide +kernel); conv => whnf)
      | ((with_reducible refine growx_pre ?_ ?_); (· exact ⟨_, rfl⟩); conv => whnf)
      | ((with_reducible refine needm_of ?_ ?_); (· first | assumption | exact decide_eq_true (by omega) | exact mkOK_of (by decide) | decide +kernel | (refine decide_eq_true ?_; simp (disch := omega) only [i64w]; omega)); conv => whnf)
      | ((with_reducible refine condm_pos ?_ ?_); (· assumption); conv => whnf)
      | ((with_reducible refine condm_neg ?_ ?_); (· assumption); conv => whnf)
      | ((with_reducible refine forceL_fv (by assumption) ?_); conv => whnf)
      | ((with_reducible refine forceL_rfv (by assumption) ?_); conv => whnf)
      | ((with_reducible refine forceNm_of ?_); conv => whnf)
      | ((with_reducible refine needm_of (fv_lenL (by assumption) (by assumption)) ?_); conv => whnf)
      | ((with_reducible refine optm_var (fv_strL (by assumption) (by assumption)) (fun s hs => ?_)); conv => whnf)
      | ((with_reducible refine forceA_of ?_); conv => whnf)
      | ((with_reducible refine forceL_pl (by assumption) ?_); conv => whnf)
      | ((with_reducible refine forceL_rpl (by assumption) ?_); conv => whnf)
      | ((with_reducible apply optm_of); (· first | exact g0 | exact g1 | exact g2 | exact g3 | exact g4 | exact g5 | exact g6); conv => whnf)
      | fail)
    refine fltx_of (fun r hr => ?_)
    conv => whnf
    repeat' (first
      | ((with_reducible refine regx_of ?_ ?_); (· decide +kernel); conv => whnf)
      | ((with_reducible refine growx_pre ?_ ?_); (· exact ⟨_, rfl⟩); conv => whnf)
      | ((with_reducible refine needm_of ?_ ?_); (· first | assumption | exact decide_eq_true (by omega) | exact mkOK_of (by decide) | decide +kernel | (refine decide_eq_true ?_; simp (disch := omega) only [i64w]; omega)); conv => whnf)
      | ((with_reducible refine condm_pos ?_ ?_); (· assumption); conv => whnf)
      | ((with_reducible refine condm_neg ?_ ?_); (· assumption); conv => whnf)
      | ((with_reducible refine forceL_fv (by assumption) ?_); conv => whnf)
      | ((with_reducible refine forceL_rfv (by assumption) ?_); conv => whnf)
      | ((with_reducible refine forceNm_of ?_); conv => whnf)
      | ((with_reducible refine needm_of (fv_lenL (by assumption) (by assumption)) ?_); conv => whnf)
      | ((with_reducible refine optm_var (fv_strL (by assumption) (by assumption)) (fun s hs => ?_)); conv => whnf)
      | ((with_reducible refine forceA_of ?_); conv => whnf)
      | ((with_reducible refine forceL_pl (by assumption) ?_); conv => whnf)
      | ((with_reducible refine forceL_rpl (by assumption) ?_); conv => whnf)
      | ((with_reducible apply optm_of); (· first | exact g0 | exact g1 | exact g2 | exact g3 | exact g4 | exact g5 | exact g6); conv => whnf)
      | fail)
    exact keepOf (v₀ := .a (.flt .f64 r)) [] [] rfl trivial rfl (hK1 (by omega) r hr)
set_option maxHeartbeats 400000 in
theorem ldexp41n (b k : Nat) (hb : b < bInf) (hb1 : 4503599627370496 ≤ b) (hk : k ≤ 10) {K : V → Hp → Prop}
    (hK1 : b / 4503599627370496 + k ≤ 2046 → ∀ r, Ans (FloatKind.f64.format.mul 4607182418800017408 (b + k * 4503599627370496)) r → K (.a (.flt .f64 r)) [])
    (hK2 : 2046 < b / 4503599627370496 + k → K (.a (.flt .f64 9218868437227405312)) []) : Go.Eng.Fn Try.prog ro 41 [.a (.flt .f64 b), .a (.int .i64 (k : Int))] [] K := by
  refine Go.Eng.Fn.weak ?_
  refine Go.Eng.Fn.of_code (gOf []) Try.func41 rfl (Nat.le_of_ble_eq_true rfl) ?_
  conv => whnf
  repeat' (first
    | ((with_reducible refine regx_of ?_ ?_); (· decide +kernel); conv => whnf)
    | ((with_reducible refine growx_pre ?_ ?_); (· exact ⟨_, rfl⟩); conv => whnf)
    | ((with_reducible refine needm_of ?_ ?_); (· first | assumption | exact decide_eq_true (by omega) | exact mkOK_of (by decide) | decide +kernel | (refine decide_eq_true ?_; simp (disch := omega) only [i64w]; omega)); conv => whnf)
    | ((with_reducible refine condm_pos ?_ ?_); (· assumption); conv => whnf)
    | ((with_reducible refine condm_neg ?_ ?_); (· assumption); conv => whnf)
    | ((with_reducible refine forceL_fv (by assumption) ?_); conv => whnf)
    | ((with_reducible refine forceL_rfv (by assumption) ?_); conv => whnf)
    | ((with_reducible refine forceNm_of ?_); conv => whnf)
    | ((with_reducible refine needm_of (fv_lenL (by assumption) (by assumption)) ?_); conv => whnf)
    | ((with_reducible refine optm_var (fv_strL (by assumption) (by assumption)) (fun s hs => ?_)); conv => whnf)
    | ((with_reducible refine forceA_of ?_); conv => whnf)
    | ((with_reducible refine forceL_pl (by assumption) ?_); conv => whnf)
    | ((with_reducible refine forceL_rpl (by assumption) ?_); conv => whnf)
    | ((with_reducible refine fltx_of (fun r hr => ?_)); conv => whnf)
    | ((refine ext_bits (by rfl) bits_n bits_f ?_); conv => whnf)
    | ((refine ext_from (by rfl) from_n from_f ?_); conv => whnf)
    | fail)
  refine Go.Eng.Fn.frame [] (by rfl) (by exact trivial) (by rfl) (ldexp54n b k hb hb1 hk (fun h r hr => ?_) (fun h => ?_))
  ·
    conv => whnf
    repeat' (first
      | ((with_reducible refine regx_of ?_ ?_); (· decide +kernel); conv => whnf)
      | ((with_reducible refine growx_pre ?_ ?_); (· exact ⟨_, rfl⟩); conv => whnf)
      | ((with_reducible refine needm_of ?_ ?_); (· first | assumption | exact decide_eq_true (by omega) | exact mkOK_of (by decide) | decide +kernel | (refine decide_eq_true ?_; simp (disch := omega) only [i64w]; omega)); conv => whnf)
      | ((with_reducible refine condm_pos ?_ ?_); (· assumption); conv => whnf)
      | ((with_reducible refine condm_neg ?_ ?_); (· assumption); conv => whnf)
      | ((with_reducible refine forceL_fv (by assumption) ?_); conv => whnf)
      | ((with_reducible refine forceL_rfv (by assumption) ?_); conv => whnf)
      | ((with_reducible refine forceNm_of ?_); conv => whnf)
      | ((with_reducible refine needm_of (fv_lenL (by assumption) (by assumption)) ?_); conv => whnf)
      | ((with_reducible refine optm_var (fv_strL (by assumption) (by assumption)) (fun s hs => ?_)); conv => whnf)
      | ((with_reducible refine forceA_of ?_); conv => whnf)
      | ((with_reducible refine forceL_pl (by assumption) ?_); conv => whnf)
      | ((with_reducible refine forceL_rpl (by assumption) ?_); conv => whnf)
      | ((with_reducible refine fltx_of (fun r hr => ?_)); conv => whnf)
      | ((refine ext_bits (by rfl) bits_n bits_f ?_); conv => whnf)
      | ((refine ext_from (by rfl) from_n from_f ?_); conv => whnf)
      | fail)
    exact keepOf (v₀ := .a (.flt .f64 r)) [] [] rfl trivial rfl (hK1 h r hr)
  ·
    conv => whnf
    repeat' (first
      | ((with_reducible refine regx_of ?_ ?_); (· decide +kernel); conv => whnf)
      | ((with_reducible refine growx_pre ?_ ?_); (· exact ⟨_, rfl⟩); conv => whnf)
      | ((with_reducible refine needm_of ?_ ?_); (· first | assumption | exact decide_eq_true (by omega) | exact mkOK_of (by decide) | decide +kernel | (refine decide_eq_true ?_; simp (disch := omega) only [i64w]; omega)); conv => whnf)
      | ((with_reducible refine condm_pos ?_ ?_); (· assumption); conv => whnf)
      | ((with_reducible refine condm_neg ?_ ?_); (· assumption); conv => whnf)
      | ((with_reducible refine forceL_fv (by assumption) ?_); conv => whnf)
      | ((with_reducible refine forceL_rfv (by assumption) ?_); conv => whnf)
      | ((with_reducible refine forceNm_of ?_); conv => whnf)
      | ((with_reducible refine needm_of (fv_lenL (by assumption) (by assumption)) ?_); conv => whnf)
      | ((with_reducible refine optm_var (fv_strL (by assumption) (by assumption)) (fun s hs => ?_)); conv => whnf)
      | ((with_reducible refine forceA_of ?_); conv => whnf)
      | ((with_reducible refine forceL_pl (by assumption) ?_); conv => whnf)
      | ((with_reducible refine forceL_rpl (by assumption) ?_); conv => whnf)
      | ((with_reducible refine fltx_of (fun r hr => ?_)); conv => whnf)
      | ((refine ext_bits (by rfl) bits_n bits_f ?_); conv => whnf)
      | ((refine ext_from (by rfl) from_n from_f ?_); conv => whnf)
      | fail)
    exact keepOf (v₀ := .a (.flt .f64 9218868437227405312)) [] [] rfl trivial rfl (hK2 h)
end
end Go.Proofs.Ytmnimmhpclhmfaa.PC
