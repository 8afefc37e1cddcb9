import Derived.Test.YtmnimmhpclhmfaaPF
namespace Go.Proofs.Ytmnimmhpclhmfaa.PC
open Go.Eng
set_option maxRecDepth 100000
/-- A number, and no infinity. -/
@[irreducible] def fin (b : Nat) : Bool := decide (rung b < bInf)
@[irreducible] def isInf (b : Nat) : Bool := fGtK .f64 (absF b) 9218868437227405311
theorem fkey_abs (b : Nat) : fkey (absF b) = if rung b ≤ bInf then some (rung b : Int) else none := by
  have h0 : (0 : Nat) < bSign := by decide
  have e1 : rung (absF b) = rung b := by unfold rung absF; exact Nat.mod_mod _ _
  have e2 : sgn (absF b) = false := by
    unfold sgn absF
    rw [Nat.div_eq_of_lt (Nat.mod_lt _ h0)]; rfl
  unfold fkey
  rw [e1, e2]
  rfl
theorem fin_eq (b : Nat) : (!isNan b && !isInf b) = fin b := by
  unfold isInf fin
  rw [fkey_nan, fGt_lt, fLt_key, fkey_abs]
  have e1 : fkey 9218868437227405311 = some 9218868437227405311 := by decide
  rw [e1]
  unfold fkey bInf
  by_cases h : rung b ≤ 9218868437227405312
  · rw [if_pos h, if_pos h]
    show (!false && !decide ((9218868437227405311 : Int) < (rung b : Int))) = decide (rung b < 9218868437227405312)
    by_cases h2 : rung b < 9218868437227405312
    · rw [decide_eq_true h2, decide_eq_false (by omega)]; rfl
    · rw [decide_eq_false h2, decide_eq_true (by omega)]; rfl
  · rw [if_neg h, if_neg h, decide_eq_false (by omega)]; rfl
section
variable {ro : Addr → A → Prop}
set_option maxHeartbeats 400000 in
theorem isinf28 (b : Nat) (hb : b < 18446744073709551616) {K : V → Hp → Prop} (hK : K (.a (.bool (isInf b))) []) : Go.Eng.Fn Try.prog ro 28 [.a (.flt .f64 b), .a (.int .i64 0)] [] K := by
  refine Go.Eng.Fn.weak ?_
  refine Go.Eng.Fn.of_code (gOf []) Try.func28 rfl (Nat.le_of_ble_eq_true rfl) ?_
  conv => whnf
  repeat' (first
    | ((with_reducible refine regx_of ?_ ?_); (· decide +kernel); conv => whnf)
    | ((with_reducible refine growx_pre ?_ ?_); (· exact ⟨_, rfl⟩); conv => whnf)
    | ((with_reducible refine needm_of ?_ ?_); (· first | assumption | exact decide_eq_true (by omega) | exact mkOK_of (by decide) | decide +kernel | (refine decide_eq_true ?_; simp (disch := omega) only [i64w]; omega)); conv => whnf)
    | ((with_reducible refine condm_pos ?_ ?_); (· assumption); conv => whnf)
    | ((with_reducible refine condm_neg ?_ ?_); (· assumption); conv => whnf)
    | ((with_reducible refine forceL_fv (by assumption) ?_); conv => whnf)
    | ((with_reducible refine forceL_rfv (by assumption) ?_); conv => whnf)
    | ((with_reducible refine forceNm_of ?_); conv => whnf)
    | ((with_reducible refine needm_of (fv_lenL (by assumption) (by assumption)) ?_); conv => whnf)
    | ((with_reducible refine optm_var (fv_strL (by assumption) (by assumption)) (fun s hs => ?_)); conv => whnf)
    | ((with_reducible refine forceA_of ?_); conv => whnf)
    | ((with_reducible refine forceL_pl (by assumption) ?_); conv => whnf)
    | ((with_reducible refine forceL_rpl (by assumption) ?_); conv => whnf)
    | ((with_reducible refine fltx_of (fun r hr => ?_)); conv => whnf)
    | ((refine ext_bits (by rfl) bits_n bits_f ?_); conv => whnf)
    | ((refine ext_from (by rfl) from_n from_f ?_); conv => whnf)
    | fail)
  refine Go.Eng.Fn.frame [] (by rfl) (by exact trivial) (by rfl) (abs40 b hb ?_)
  conv => whnf
  repeat' (first
    | ((with_reducible refine regx_of ?_ ?_); (· decide +kernel); conv => whnf)
    | ((with_reducible refine growx_pre ?_ ?_); (· exact ⟨_, rfl⟩); conv => whnf)
    | ((with_reducible refine needm_of ?_ ?_); (· first | assumption | exact decide_eq_true (by omega) | exact mkOK_of (by decide) | decide +kernel | (refine decide_eq_true ?_; simp (disch := omega) only [i64w]; omega)); conv => whnf)
    | ((with_reducible refine condm_pos ?_ ?_); (· assumption); conv => whnf)
    | ((with_reducible refine condm_neg ?_ ?_); (· assumption); conv => whnf)
    | ((with_reducible refine forceL_fv (by assumption) ?_); conv => whnf)
    | ((with_reducible refine forceL_rfv (by assumption) ?_); conv => whnf)
    | ((with_reducible refine forceNm_of ?_); conv => whnf)
    | ((with_reducible refine needm_of (fv_lenL (by assumption) (by assumption)) ?_); conv => whnf)
    | ((with_reducible refine optm_var (fv_strL (by assumption) (by assumption)) (fun s hs => ?_)); conv => whnf)
    | ((with_reducible refine forceA_of ?_); conv => whnf)
    | ((with_reducible refine forceL_pl (by assumption) ?_); conv => whnf)
    | ((with_reducible refine forceL_rpl (by assumption) ?_); conv => whnf)
    | ((with_reducible refine fltx_of (fun r hr => ?_)); conv => whnf)
    | ((refine ext_bits (by rfl) bits_n bits_f ?_); conv => whnf)
    | ((refine ext_from (by rfl) from_n from_f ?_); conv => whnf)
    | fail)
  exact keepOf (v₀ := .a (.bool (isInf b))) [] [] (congrArg (fun b => V.a (.bool b)) (by unfold isInf; rfl)) trivial rfl hK
set_option maxHeartbeats 400000 in
theorem bounded39 (b : Nat) (hb : b < 18446744073709551616) {K : V → Hp → Prop} (hK : K (.a (.bool (fin b))) []) : Go.Eng.Fn Try.prog ro 39 [.a (.flt .f64 b)] [] K := by
  have e := fin_eq b
  refine Go.Eng.Fn.weak ?_
  refine Go.Eng.Fn.of_code (gOf []) Try.func39 rfl (Nat.le_of_ble_eq_true rfl) ?_
  conv => whnf
  repeat' (first
    | ((with_reducible refine regx_of ?_ ?_); (· decide +kernel); conv => whnf)
    | ((with_reducible refine growx_pre ?_ ?_); (· exact ⟨_, rfl⟩); conv => whnf)
    | ((with_reducible refine needm_of ?_ ?_); (· first | assumption | exact decide_eq_true (by omega) | exact mkOK_of (by decide) | decide +kernel | (refine decide_eq_true ?_; simp (disch := omega) only [i64w]; omega)); conv => whnf)
    | ((with_reducible refine condm_pos ?_ ?_); (· assumption); conv => whnf)
    | ((with_reducible refine condm_neg ?_ ?_); (· assumption); conv => whnf)
    | ((with_reducible refine forceL_fv (by assumption) ?_); conv => whnf)
    | ((with_reducible refine forceL_rfv (by assumption) ?_); conv => whnf)
    | ((with_reducible refine forceNm_of ?_); conv => whnf)
    | ((with_reducible refine needm_of (fv_lenL (by assumption) (by assumption)) ?_); conv => whnf)
    | ((with_reducible refine optm_var (fv_strL (by assumption) (by assumption)) (fun s hs => ?_)); conv => whnf)
    | ((with_reducible refine forceA_of ?_); conv => whnf)
    | ((with_reducible refine forceL_pl (by assumption) ?_); conv => whnf)
    | ((with_reducible refine forceL_rpl (by assumption) ?_); conv => whnf)
    | ((with_reducible refine fltx_of (fun r hr => ?_)); conv => whnf)
    | ((refine ext_bits (by rfl) bits_n bits_f ?_); conv => whnf)
    | ((refine ext_from (by rfl) from_n from_f ?_); conv => whnf)
    | fail)
  refine Go.Eng.Fn.frame [] (by rfl) (by exact trivial) (by rfl) (isnan32 b ?_)
  cases hn : isNan b with
  | true =>
    rw [hn] at e
    conv => whnf
    repeat' (first
      | ((with_reducible refine regx_of ?_ ?_); (· decide +kernel); conv => whnf)
      | ((with_reducible refine growx_pre ?_ ?_); (· exact ⟨_, rfl⟩); conv => whnf)
      | ((with_reducible refine needm_of ?_ ?_); (· first | assumption | exact decide_eq_true (by omega) | exact mkOK_of (by decide) | decide +kernel | (refine decide_eq_true ?_; simp (disch := omega) only [i64w]; omega)); conv => whnf)
      | ((with_reducible refine condm_pos ?_ ?_); (· assumption); conv => whnf)
      | ((with_reducible refine condm_neg ?_ ?_); (· assumption); conv => whnf)
      | ((with_reducible refine forceL_fv (by assumption) ?_); conv => whnf)
      | ((with_reducible refine forceL_rfv (by assumption) ?_); conv => whnf)
      | ((with_reducible refine forceNm_of ?_); conv => whnf)
      | ((with_reducible refine needm_of (fv_lenL (by assumption) (by assumption)) ?_); conv => whnf)
      | ((with_reducible refine optm_var (fv_strL (by assumption) (by assumption)) (fun s hs => ?_)); conv => whnf)
      | ((with_reducible refine forceA_of ?_); conv => whnf)
      | ((with_reducible refine forceL_pl (by assumption) ?_); conv => whnf)
      | ((with_reducible refine forceL_rpl (by assumption) ?_); conv => whnf)
      | ((with_reducible refine fltx_of (fun r hr => ?_)); conv => whnf)
      | ((refine ext_bits (by rfl) bits_n bits_f ?_); conv => whnf)
      | ((refine ext_from (by rfl) from_n from_f ?_); conv => whnf)
      | fail)
    exact keepOf (v₀ := .a (.bool (fin b))) [] [] (congrArg (fun b => V.a (.bool b)) (by rw [← e]; rfl)) trivial rfl hK
  | false =>
    rw [hn] at e
    conv => whnf
    repeat' (first
      | ((with_reducible refine regx_of ?_ ?_); (· decide +kernel); conv => whnf)
      | ((with_reducible refine growx_pre ?_ ?_); (· exact ⟨_, rfl⟩); conv => whnf)
      | ((with_reducible refine needm_of ?_ ?_); (· first | assumption | exact decide_eq_true (by omega) | exact mkOK_of (by decide) | decide +kernel | (refine decide_eq_true ?_; simp (disch := omega) only [i64w]; omega)); conv => whnf)
      | ((with_reducible refine condm_pos ?_ ?_); (· assumption); conv => whnf)
      | ((with_reducible refine condm_neg ?_ ?_); (· assumption); conv => whnf)
      | ((with_reducible refine forceL_fv (by assumption) ?_); conv => whnf)
      | ((with_reducible refine forceL_rfv (by assumption) ?_); conv => whnf)
      | ((with_reducible refine forceNm_of ?_); conv => whnf)
      | ((with_reducible refine needm_of (fv_lenL (by assumption) (by assumption)) ?_); conv => whnf)
      | ((with_reducible refine optm_var (fv_strL (by assumption) (by assumption)) (fun s hs => ?_)); conv => whnf)
      | ((with_reducible refine forceA_of ?_); conv => whnf)
      | ((with_reducible refine forceL_pl (by assumption) ?_); conv => whnf)
      | ((with_reducible refine forceL_rpl (by assumption) ?_); conv => whnf)
      | ((with_reducible refine fltx_of (fun r hr => ?_)); conv => whnf)
      | ((refine ext_bits (by rfl) bits_n bits_f ?_); conv => whnf)
      | ((refine ext_from (by rfl) from_n from_f ?_); conv => whnf)
      | fail)
    refine Go.Eng.Fn.frame [] (by rfl) (by exact trivial) (by rfl) (isinf28 b hb ?_)
    conv => whnf
    repeat' (first
      | ((with_reducible refine regx_of ?_ ?_); (· decide +kernel); conv => whnf)
      | ((with_reducible refine growx_pre ?_ ?_); (· exact ⟨_, rfl⟩); conv => whnf)
      | ((with_reducible refine needm_of ?_ ?_); (· first | assumption | exact decide_eq_true (by omega) | exact mkOK_of (by decide) | decide +kernel | (refine decide_eq_true ?_; simp (disch := omega) only [i64w]; omega)); conv => whnf)
      | ((with_reducible refine condm_pos ?_ ?_); (· assumption); conv => whnf)
      | ((with_reducible refine condm_neg ?_ ?_); (· assumption); conv => whnf)
      | ((with_reducible refine forceL_fv (by assumption) ?_); conv => whnf)
      | ((with_reducible refine forceL_rfv (by assumption) ?_); conv => whnf)
      | ((with_reducible refine forceNm_of ?_); conv => whnf)
      | ((with_reducible refine needm_of (fv_lenL (by assumption) (by assumption)) ?_); conv => whnf)
      | ((with_reducible refine optm_var (fv_strL (by assumption) (by assumption)) (fun s hs => ?_)); conv => whnf)
      | ((with_reducible refine forceA_of ?_); conv => whnf)
      | ((with_reducible refine forceL_pl (by assumption) ?_); conv => whnf)
      | ((with_reducible refine forceL_rpl (by assumption) ?_); conv => whnf)
      | ((with_reducible refine fltx_of (fun r hr => ?_)); conv => whnf)
      | ((refine ext_bits (by rfl) bits_n bits_f ?_); conv => whnf)
      | ((refine ext_from (by rfl) from_n from_f ?_); conv => whnf)
      | fail)
    exact keepOf (v₀ := .a (.bool (fin b))) [] [] (congrArg (fun b => V.a (.bool b)) (by rw [← e]; rfl)) trivial rfl hK
set_option maxHeartbeats 400000 in
theorem new19 (n : Nat) (h1 : 1 ≤ n) (h2 : n ≤ 5) {K : V → Hp → Prop} (hK : ∀ cs, cs = prow (List.replicate n p0) → K (.t [.a (.ptr 1 0), .a (.int .i64 0)]) [.cells cs 73 false, .cells [.slc 0 0 n n] 68 false]) : Go.Eng.Fn Try.prog ro 19 [.a (.int .i64 (n : Int))] [] K := by
  have c1 : decide ((n : Int) < 1) = false := decide_eq_false (by omega)
  have c2 : decide ((n : Int) > 5) = false := decide_eq_false (by omega)
  have c3 : mkOK (n : Int) (n : Int) Try.prog.types[73].bytes = true := mkOK_of (by rw [b73]; omega)
  refine Go.Eng.Fn.weak ?_
  refine Go.Eng.Fn.of_code (gOf []) Try.func19 rfl (Nat.le_of_ble_eq_true rfl) ?_
  conv => whnf
  repeat' (first
    | ((with_reducible refine regx_of ?_ ?_); (· decide +kernel); conv => whnf)
    | ((with_reducible refine growx_pre ?_ ?_); (· exact ⟨_, rfl⟩); conv => whnf)
    | ((with_reducible refine needm_of ?_ ?_); (· first | assumption | exact decide_eq_true (by omega) | exact mkOK_of (by decide) | decide +kernel | (refine decide_eq_true ?_; simp (disch := omega) only [i64w]; omega)); conv => whnf)
    | ((with_reducible refine condm_pos ?_ ?_); (· assumption); conv => whnf)
    | ((with_reducible refine condm_neg ?_ ?_); (· assumption); conv => whnf)
    | ((with_reducible refine forceL_fv (by assumption) ?_); conv => whnf)
    | ((with_reducible refine forceL_rfv (by assumption) ?_); conv => whnf)
    | ((with_reducible refine forceNm_of ?_); conv => whnf)
    | ((with_reducible refine needm_of (fv_lenL (by assumption) (by assumption)) ?_); conv => whnf)
    | ((with_reducible refine optm_var (fv_strL (by assumption) (by assumption)) (fun s hs => ?_)); conv => whnf)
    | ((with_reducible refine forceA_of ?_); conv => whnf)
    | ((with_reducible refine forceL_pl (by assumption) ?_); conv => whnf)
    | ((with_reducible refine forceL_rpl (by assumption) ?_); conv => whnf)
    | ((with_reducible refine fltx_of (fun r hr => ?_)); conv => whnf)
    | ((refine ext_bits (by rfl) bits_n bits_f ?_); conv => whnf)
    | ((refine ext_from (by rfl) from_n from_f ?_); conv => whnf)
    | fail)
  refine forceL_var (l' := prow (List.replicate n p0)) (by rw [Int.toNat_natCast, s73]; exact prow_zeros n) (fun cs hcs => ?_)
  have hp := Pl.prow hcs
  rw [Int.toNat_natCast]
  conv => whnf
  repeat' (first
    | ((with_reducible refine regx_of ?_ ?_); (· decide +kernel); conv => whnf)
    | ((with_reducible refine growx_pre ?_ ?_); (· exact ⟨_, rfl⟩); conv => whnf)
    | ((with_reducible refine needm_of ?_ ?_); (· first | assumption | exact decide_eq_true (by omega) | exact mkOK_of (by decide) | decide +kernel | (refine decide_eq_true ?_; simp (disch := omega) only [i64w]; omega)); conv => whnf)
    | ((with_reducible refine condm_pos ?_ ?_); (· assumption); conv => whnf)
    | ((with_reducible refine condm_neg ?_ ?_); (· assumption); conv => whnf)
    | ((with_reducible refine forceL_fv (by assumption) ?_); conv => whnf)
    | ((with_reducible refine forceL_rfv (by assumption) ?_); conv => whnf)
    | ((with_reducible refine forceNm_of ?_); conv => whnf)
    | ((with_reducible refine needm_of (fv_lenL (by assumption) (by assumption)) ?_); conv => whnf)
    | ((with_reducible refine optm_var (fv_strL (by assumption) (by assumption)) (fun s hs => ?_)); conv => whnf)
    | ((with_reducible refine forceA_of ?_); conv => whnf)
    | ((with_reducible refine forceL_pl (by assumption) ?_); conv => whnf)
    | ((with_reducible refine forceL_rpl (by assumption) ?_); conv => whnf)
    | ((with_reducible refine fltx_of (fun r hr => ?_)); conv => whnf)
    | ((refine ext_bits (by rfl) bits_n bits_f ?_); conv => whnf)
    | ((refine ext_from (by rfl) from_n from_f ?_); conv => whnf)
    | fail)
  exact keepOf (v₀ := .t [.a (.ptr 1 0), .a (.int .i64 0)]) [.cells cs 73 false, .cells [.slc 0 0 n n] 68 false] [0, 1] rfl ⟨ren_pl hp _ _ _, rfl, trivial⟩ (by simp [nodupb, baseb, Ob.okb, frmOk, V.okb, E.okb, A.okb, hp.2] <;> decide) (hK cs hcs)
set_option maxHeartbeats 400000 in
theorem of38 (P : List Pt) (cs : List A) (n : Nat) (mk : Bool) (hcs : cs = prow P) (hn : n = P.length) (hn5 : n ≤ 5) (i : Int) {K : V → Hp → Prop}
    (hK1 : ¬ (1 ≤ i ∧ i ≤ n) → K (.t [.a .nilp, .a (.int .i64 1)]) [.cells cs 73 mk, .cells [.slc 0 0 n n] 68 false])
    (hK2 : ∀ k, k < n → i = ((k + 1 : Nat) : Int) → ∀ o, o = k * 7 → K (.t [.a (.ptr 0 o), .a (.int .i64 0)]) [.cells cs 73 mk, .cells [.slc 0 0 n n] 68 false]) :
    Go.Eng.Fn Try.prog ro 38 [.a (.ptr 1 0), .a (.int .i64 i)] [.cells cs 73 mk, .cells [.slc 0 0 n n] 68 false] K := by
  have hp := Pl.prow hcs
  refine Go.Eng.Fn.weak ?_
  refine Go.Eng.Fn.of 2 (gOf []) rfl Try.func38 rfl (Nat.le_of_ble_eq_true rfl) ?_
  by_cases h1 : i < 1
  · have c1 : decide (i < 1) = true := decide_eq_true h1
    conv => whnf
    repeat' (first
      | ((with_reducible refine regx_of ?_ ?_); (· decide +kernel); conv => whnf)
      | ((with_reducible refine growx_pre ?_ ?_); (· exact ⟨_, rfl⟩); conv => whnf)
      | ((with_reducible refine needm_of ?_ ?_); (· first | assumption | exact decide_eq_true (by omega) | exact mkOK_of (by decide) | decide +kernel | (refine decide_eq_true ?_; simp (disch := omega) only [i64w]; omega)); conv => whnf)
      | ((with_reducible refine condm_pos ?_ ?_); (· assumption); conv => whnf)
      | ((with_reducible refine condm_neg ?_ ?_); (· assumption); conv => whnf)
      | ((with_reducible refine forceL_fv (by assumption) ?_); conv => whnf)
      | ((with_reducible refine forceL_rfv (by assumption) ?_); conv => whnf)
      | ((with_reducible refine forceNm_of ?_); conv => whnf)
      | ((with_reducible refine needm_of (fv_lenL (by assumption) (by assumption)) ?_); conv => whnf)
      | ((with_reducible refine optm_var (fv_strL (by assumption) (by assumption)) (fun s hs => ?_)); conv => whnf)
      | ((with_reducible refine forceA_of ?_); conv => whnf)
      | ((with_reducible refine forceL_pl (by assumption) ?_); conv => whnf)
      | ((with_reducible refine forceL_rpl (by assumption) ?_); conv => whnf)
      | ((with_reducible refine fltx_of (fun r hr => ?_)); conv => whnf)
      | ((refine ext_bits (by rfl) bits_n bits_f ?_); conv => whnf)
      | ((refine ext_from (by rfl) from_n from_f ?_); conv => whnf)
      | fail)
    exact keepOf (v₀ := .t [.a .nilp, .a (.int .i64 1)]) [.cells cs 73 mk, .cells [.slc 0 0 n n] 68 false] [0, 1] rfl ⟨ren_pl hp _ _ _, rfl, trivial⟩ (by simp [nodupb, baseb, Ob.okb, frmOk, V.okb, E.okb, A.okb, hp.2] <;> decide) (hK1 (by omega))
  · have c1 : decide (i < 1) = false := decide_eq_false h1
    by_cases h2 : i > (n : Int)
    · have c2 : decide (i > (n : Int)) = true := decide_eq_true h2
      conv => whnf
      repeat' (first
        | ((with_reducible refine regx_of ?_ ?_); (· decide +kernel); conv => whnf)
        | ((with_reducible refine growx_pre ?_ ?_); (· exact ⟨_, rfl⟩); conv => whnf)
        | ((with_reducible refine needm_of ?_ ?_); (· first | assumption | exact decide_eq_true (by omega) | exact mkOK_of (by decide) | decide +kernel | (refine decide_eq_true ?_; simp (disch := omega) only [i64w]; omega)); conv => whnf)
        | ((with_reducible refine condm_pos ?_ ?_); (· assumption); conv => whnf)
        | ((with_reducible refine condm_neg ?_ ?_); (· assumption); conv => whnf)
        | ((with_reducible refine forceL_fv (by assumption) ?_); conv => whnf)
        | ((with_reducible refine forceL_rfv (by assumption) ?_); conv => whnf)
        | ((with_reducible refine forceNm_of ?_); conv => whnf)
        | ((with_reducible refine needm_of (fv_lenL (by assumption) (by assumption)) ?_); conv => whnf)
        | ((with_reducible refine optm_var (fv_strL (by assumption) (by assumption)) (fun s hs => ?_)); conv => whnf)
        | ((with_reducible refine forceA_of ?_); conv => whnf)
        | ((with_reducible refine forceL_pl (by assumption) ?_); conv => whnf)
        | ((with_reducible refine forceL_rpl (by assumption) ?_); conv => whnf)
        | ((with_reducible refine fltx_of (fun r hr => ?_)); conv => whnf)
        | ((refine ext_bits (by rfl) bits_n bits_f ?_); conv => whnf)
        | ((refine ext_from (by rfl) from_n from_f ?_); conv => whnf)
        | fail)
      exact keepOf (v₀ := .t [.a .nilp, .a (.int .i64 1)]) [.cells cs 73 mk, .cells [.slc 0 0 n n] 68 false] [0, 1] rfl ⟨ren_pl hp _ _ _, rfl, trivial⟩ (by simp [nodupb, baseb, Ob.okb, frmOk, V.okb, E.okb, A.okb, hp.2] <;> decide) (hK1 (by omega))
    · have c2 : decide (i > (n : Int)) = false := decide_eq_false h2
      obtain ⟨k, rfl⟩ : ∃ k : Nat, i = ((k + 1 : Nat) : Int) := ⟨(i - 1).toNat, by omega⟩
      have e1 : IntKind.i64.wrap (((k + 1 : Nat) : Int) - 1) = (k : Int) := by rw [i64w (by omega) (by omega)]; omega
      conv => whnf
      repeat' (first
        | ((with_reducible refine regx_of ?_ ?_); (· decide +kernel); conv => whnf)
        | ((with_reducible refine growx_pre ?_ ?_); (· exact ⟨_, rfl⟩); conv => whnf)
        | ((with_reducible refine needm_of ?_ ?_); (· first | assumption | exact decide_eq_true (by omega) | exact mkOK_of (by decide) | decide +kernel | (refine decide_eq_true ?_; simp (disch := omega) only [i64w]; omega)); conv => whnf)
        | ((with_reducible refine condm_pos ?_ ?_); (· assumption); conv => whnf)
        | ((with_reducible refine condm_neg ?_ ?_); (· assumption); conv => whnf)
        | ((with_reducible refine forceL_fv (by assumption) ?_); conv => whnf)
        | ((with_reducible refine forceL_rfv (by assumption) ?_); conv => whnf)
        | ((with_reducible refine forceNm_of ?_); conv => whnf)
        | ((with_reducible refine needm_of (fv_lenL (by assumption) (by assumption)) ?_); conv => whnf)
        | ((with_reducible refine optm_var (fv_strL (by assumption) (by assumption)) (fun s hs => ?_)); conv => whnf)
        | ((with_reducible refine forceA_of ?_); conv => whnf)
        | ((with_reducible refine forceL_pl (by assumption) ?_); conv => whnf)
        | ((with_reducible refine forceL_rpl (by assumption) ?_); conv => whnf)
        | ((with_reducible refine fltx_of (fun r hr => ?_)); conv => whnf)
        | ((refine ext_bits (by rfl) bits_n bits_f ?_); conv => whnf)
        | ((refine ext_from (by rfl) from_n from_f ?_); conv => whnf)
        | fail)
      rw [e1]
      exact keepOf (v₀ := .t [.a (.ptr 0 (0 + (k : Int).toNat * Try.prog.types[73].size)), .a (.int .i64 0)]) [.cells cs 73 mk, .cells [.slc 0 0 n n] 68 false] [0, 1] rfl ⟨ren_pl hp _ _ _, rfl, trivial⟩ (by simp [nodupb, baseb, Ob.okb, frmOk, V.okb, E.okb, A.okb, hp.2] <;> decide) (hK2 k (by omega) rfl _ (by rw [s73, Int.toNat_natCast, Nat.zero_add]))
set_option maxHeartbeats 400000 in
theorem trip21 (P : List Pt) (cs : List A) (n : Nat) (mk : Bool) (hcs : cs = prow P) (hn : n = P.length) (hn5 : n ≤ 5) (i : Int) {K : V → Hp → Prop}
    (hK1 : ¬ (1 ≤ i ∧ i ≤ n) → K (.t [.a (.flt .f64 0), .a (.flt .f64 0)]) [.cells cs 73 mk, .cells [.slc 0 0 n n] 68 false])
    (hK2 : ∀ k x, P[k]? = some x → i = ((k + 1 : Nat) : Int) → K (.t [.a (.flt .f64 x.mean), .a (.flt .f64 x.stray)]) [.cells cs 73 mk, .cells [.slc 0 0 n n] 68 false]) :
    Go.Eng.Fn Try.prog ro 21 [.a (.ptr 1 0), .a (.int .i64 i)] [.cells cs 73 mk, .cells [.slc 0 0 n n] 68 false] K := by
  have hp := Pl.prow hcs
  refine Go.Eng.Fn.weak ?_
  refine Go.Eng.Fn.of 2 h21 rfl Try.func21 rfl (Nat.le_of_ble_eq_true rfl) ?_
  conv => whnf
  repeat' (first
    | ((with_reducible refine regx_of ?_ ?_); (· decide +kernel); conv => whnf)
    | ((with_reducible refine growx_pre ?_ ?_); (· exact ⟨_, rfl⟩); conv => whnf)
    | ((with_reducible refine needm_of ?_ ?_); (· first | assumption | exact decide_eq_true (by omega) | exact mkOK_of (by decide) | decide +kernel | (refine decide_eq_true ?_; simp (disch := omega) only [i64w]; omega)); conv => whnf)
    | ((with_reducible refine condm_pos ?_ ?_); (· assumption); conv => whnf)
    | ((with_reducible refine condm_neg ?_ ?_); (· assumption); conv => whnf)
    | ((with_reducible refine forceL_fv (by assumption) ?_); conv => whnf)
    | ((with_reducible refine forceL_rfv (by assumption) ?_); conv => whnf)
    | ((with_reducible refine forceNm_of ?_); conv => whnf)
    | ((with_reducible refine needm_of (fv_lenL (by assumption) (by assumption)) ?_); conv => whnf)
    | ((with_reducible refine optm_var (fv_strL (by assumption) (by assumption)) (fun s hs => ?_)); conv => whnf)
    | ((with_reducible refine forceA_of ?_); conv => whnf)
    | ((with_reducible refine forceL_pl (by assumption) ?_); conv => whnf)
    | ((with_reducible refine forceL_rpl (by assumption) ?_); conv => whnf)
    | ((with_reducible refine fltx_of (fun r hr => ?_)); conv => whnf)
    | ((refine ext_bits (by rfl) bits_n bits_f ?_); conv => whnf)
    | ((refine ext_from (by rfl) from_n from_f ?_); conv => whnf)
    | fail)
  refine Go.Eng.Fn.frame [0, 1] (by rfl) (by exact ⟨ren_pl hp _ _ _, rfl, trivial⟩) (by simp [nodupb, V.okb, A.okb, Ob.okb, hp.2] <;> decide) (of38 P cs n mk hcs hn hn5 i (fun h => ?_) (fun k hk e o ho => ?_))
  ·
    conv => whnf
    repeat' (first
      | ((with_reducible refine regx_of ?_ ?_); (· decide +kernel); conv => whnf)
      | ((with_reducible refine growx_pre ?_ ?_); (· exact ⟨_, rfl⟩); conv => whnf)
      | ((with_reducible refine needm_of ?_ ?_); (· first | assumption | exact decide_eq_true (by omega) | exact mkOK_of (by decide) | decide +kernel | (refine decide_eq_true ?_; simp (disch := omega) only [i64w]; omega)); conv => whnf)
      | ((with_reducible refine condm_pos ?_ ?_); (· assumption); conv => whnf)
      | ((with_reducible refine condm_neg ?_ ?_); (· assumption); conv => whnf)
      | ((with_reducible refine forceL_fv (by assumption) ?_); conv => whnf)
      | ((with_reducible refine forceL_rfv (by assumption) ?_); conv => whnf)
      | ((with_reducible refine forceNm_of ?_); conv => whnf)
      | ((with_reducible refine needm_of (fv_lenL (by assumption) (by assumption)) ?_); conv => whnf)
      | ((with_reducible refine optm_var (fv_strL (by assumption) (by assumption)) (fun s hs => ?_)); conv => whnf)
      | ((with_reducible refine forceA_of ?_); conv => whnf)
      | ((with_reducible refine forceL_pl (by assumption) ?_); conv => whnf)
      | ((with_reducible refine forceL_rpl (by assumption) ?_); conv => whnf)
      | ((with_reducible refine fltx_of (fun r hr => ?_)); conv => whnf)
      | ((refine ext_bits (by rfl) bits_n bits_f ?_); conv => whnf)
      | ((refine ext_from (by rfl) from_n from_f ?_); conv => whnf)
      | fail)
    exact keepOf (v₀ := .t [.a (.flt .f64 0), .a (.flt .f64 0)]) [.cells cs 73 mk, .cells [.slc 0 0 n n] 68 false] [0, 1] rfl ⟨ren_pl hp _ _ _, rfl, trivial⟩ (by simp [nodupb, baseb, Ob.okb, frmOk, V.okb, E.okb, A.okb, hp.2] <;> decide) (hK1 h)
  · obtain ⟨x, hx⟩ : ∃ x, P[k]? = some x := ⟨_, List.getElem?_eq_getElem (by omega)⟩
    have g2 : cs[o + 2]? = some (.flt .f64 x.mean) := prow_get hcs hx (k := 2) (by omega) rfl
    have g3 : cs[o + 3]? = some (.flt .f64 x.stray) := prow_get hcs hx (k := 3) (by omega) rfl
    conv => whnf
    repeat' (first
      | ((with_reducible refine regx_of ?_ ?_); (· decide +kernel); conv => whnf)
      | ((with_reducible refine growx_pre ?_ ?_); (· exact ⟨_, rfl⟩); conv => whnf)
      | ((with_reducible refine needm_of ?_ ?_); (· first | assumption | exact decide_eq_true (by omega) | exact mkOK_of (by decide) | decide +kernel | (refine decide_eq_true ?_; simp (disch := omega) only [i64w]; omega)); conv => whnf)
      | ((with_reducible refine condm_pos ?_ ?_); (· assumption); conv => whnf)
      | ((with_reducible refine condm_neg ?_ ?_); (· assumption); conv => whnf)
      | ((with_reducible refine forceL_fv (by assumption) ?_); conv => whnf)
      | ((with_reducible refine forceL_rfv (by assumption) ?_); conv => whnf)
      | ((with_reducible refine forceNm_of ?_); conv => whnf)
      | ((with_reducible refine needm_of (fv_lenL (by assumption) (by assumption)) ?_); conv => whnf)
      | ((with_reducible refine optm_var (fv_strL (by assumption) (by assumption)) (fun s hs => ?_)); conv => whnf)
      | ((with_reducible refine forceA_of ?_); conv => whnf)
      | ((with_reducible refine forceL_pl (by assumption) ?_); conv => whnf)
      | ((with_reducible refine forceL_rpl (by assumption) ?_); conv => whnf)
      | ((with_reducible refine fltx_of (fun r hr => ?_)); conv => whnf)
      | ((refine ext_bits (by rfl) bits_n bits_f ?_); conv => whnf)
      | ((refine ext_from (by rfl) from_n from_f ?_); conv => whnf)
      | ((with_reducible apply optm_of); (· first | exact g0 | exact g1 | exact g2 | exact g3 | exact g4 | exact g5 | exact g6); conv => whnf)
      | fail)
    exact keepOf (v₀ := .t [.a (.flt .f64 x.mean), .a (.flt .f64 x.stray)]) [.cells cs 73 mk, .cells [.slc 0 0 n n] 68 false] [0, 1] rfl ⟨ren_pl hp _ _ _, rfl, trivial⟩ (by simp [nodupb, baseb, Ob.okb, frmOk, V.okb, E.okb, A.okb, hp.2] <;> decide) (hK2 k x hx e)
set_option maxHeartbeats 400000 in
theorem failed23 (P : List Pt) (cs : List A) (n : Nat) (mk : Bool) (hcs : cs = prow P) (hn : n = P.length) (hn5 : n ≤ 5) (hd : ∀ p ∈ P, 0 ≤ p.dbl ∧ p.dbl ≤ 10) (i : Int) {K : V → Hp → Prop}
    (hK1 : ¬ (1 ≤ i ∧ i ≤ n) → K (.a (.int .i64 1)) [.cells cs 73 mk, .cells [.slc 0 0 n n] 68 false])
    (hK2 : ∀ k x, P[k]? = some x → i = ((k + 1 : Nat) : Int) → ∀ cs, cs = prow (P.set k { x with dbl := min (x.dbl + 1) 10 }) → K (.a (.int .i64 0)) [.cells cs 73 mk, .cells [.slc 0 0 n n] 68 false]) :
    Go.Eng.Fn Try.prog ro 23 [.a (.ptr 1 0), .a (.int .i64 i)] [.cells cs 73 mk, .cells [.slc 0 0 n n] 68 false] K := by
  have hp := Pl.prow hcs
  have hcl : cs.length = P.length * 7 := by rw [hcs, prow_length]
  refine Go.Eng.Fn.weak ?_
  refine Go.Eng.Fn.of 2 (gOf []) rfl Try.func23 rfl (Nat.le_of_ble_eq_true rfl) ?_
  conv => whnf
  repeat' (first
    | ((with_reducible refine regx_of ?_ ?_); (· decide +kernel); conv => whnf)
    | ((with_reducible refine growx_pre ?_ ?_); (· exact ⟨_, rfl⟩); conv => whnf)
    | ((with_reducible refine needm_of ?_ ?_); (· first | assumption | exact decide_eq_true (by omega) | exact mkOK_of (by decide) | decide +kernel | (refine decide_eq_true ?_; simp (disch := omega) only [i64w]; omega)); conv => whnf)
    | ((with_reducible refine condm_pos ?_ ?_); (· assumption); conv => whnf)
    | ((with_reducible refine condm_neg ?_ ?_); (· assumption); conv => whnf)
    | ((with_reducible refine forceL_fv (by assumption) ?_); conv => whnf)
    | ((with_reducible refine forceL_rfv (by assumption) ?_); conv => whnf)
    | ((with_reducible refine forceNm_of ?_); conv => whnf)
    | ((with_reducible refine needm_of (fv_lenL (by assumption) (by assumption)) ?_); conv => whnf)
    | ((with_reducible refine optm_var (fv_strL (by assumption) (by assumption)) (fun s hs => ?_)); conv => whnf)
    | ((with_reducible refine forceA_of ?_); conv => whnf)
    | ((with_reducible refine forceL_pl (by assumption) ?_); conv => whnf)
    | ((with_reducible refine forceL_rpl (by assumption) ?_); conv => whnf)
    | ((with_reducible refine fltx_of (fun r hr => ?_)); conv => whnf)
    | ((refine ext_bits (by rfl) bits_n bits_f ?_); conv => whnf)
    | ((refine ext_from (by rfl) from_n from_f ?_); conv => whnf)
    | fail)
  refine Go.Eng.Fn.frame [0, 1] (by rfl) (by exact ⟨ren_pl hp _ _ _, rfl, trivial⟩) (by simp [nodupb, V.okb, A.okb, Ob.okb, hp.2] <;> decide) (of38 P cs n mk hcs hn hn5 i (fun h => ?_) (fun k hk e o ho => ?_))
  ·
    conv => whnf
    repeat' (first
      | ((with_reducible refine regx_of ?_ ?_); (· decide +kernel); conv => whnf)
      | ((with_reducible refine growx_pre ?_ ?_); (· exact ⟨_, rfl⟩); conv => whnf)
      | ((with_reducible refine needm_of ?_ ?_); (· first | assumption | exact decide_eq_true (by omega) | exact mkOK_of (by decide) | decide +kernel | (refine decide_eq_true ?_; simp (disch := omega) only [i64w]; omega)); conv => whnf)
      | ((with_reducible refine condm_pos ?_ ?_); (· assumption); conv => whnf)
      | ((with_reducible refine condm_neg ?_ ?_); (· assumption); conv => whnf)
      | ((with_reducible refine forceL_fv (by assumption) ?_); conv => whnf)
      | ((with_reducible refine forceL_rfv (by assumption) ?_); conv => whnf)
      | ((with_reducible refine forceNm_of ?_); conv => whnf)
      | ((with_reducible refine needm_of (fv_lenL (by assumption) (by assumption)) ?_); conv => whnf)
      | ((with_reducible refine optm_var (fv_strL (by assumption) (by assumption)) (fun s hs => ?_)); conv => whnf)
      | ((with_reducible refine forceA_of ?_); conv => whnf)
      | ((with_reducible refine forceL_pl (by assumption) ?_); conv => whnf)
      | ((with_reducible refine forceL_rpl (by assumption) ?_); conv => whnf)
      | ((with_reducible refine fltx_of (fun r hr => ?_)); conv => whnf)
      | ((refine ext_bits (by rfl) bits_n bits_f ?_); conv => whnf)
      | ((refine ext_from (by rfl) from_n from_f ?_); conv => whnf)
      | fail)
    exact keepOf (v₀ := .a (.int .i64 1)) [.cells cs 73 mk, .cells [.slc 0 0 n n] 68 false] [0, 1] rfl ⟨ren_pl hp _ _ _, rfl, trivial⟩ (by simp [nodupb, baseb, Ob.okb, frmOk, V.okb, A.okb, hp.2] <;> decide) (hK1 h)
  · obtain ⟨x, hx⟩ : ∃ x, P[k]? = some x := ⟨_, List.getElem?_eq_getElem (by omega)⟩
    have hdx := hd x (List.mem_of_getElem? hx)
    have g4 : cs[o + 4]? = some (.int .i64 x.dbl) := prow_get hcs hx (k := 4) (by omega) rfl
    have hb : ∀ j, j < 7 → decide (o + j + 1 ≤ cs.length) = true := fun j hj => decide_eq_true (by omega)
    have e1 : IntKind.i64.wrap (x.dbl + 1) = x.dbl + 1 := i64w (by omega) (by omega)
    have e2 : (if (10 : Int) < x.dbl + 1 then 10 else x.dbl + 1) = min (x.dbl + 1) 10 := by
      split <;> omega
    conv => whnf
    repeat' (first
      | ((with_reducible refine regx_of ?_ ?_); (· decide +kernel); conv => whnf)
      | ((with_reducible refine growx_pre ?_ ?_); (· exact ⟨_, rfl⟩); conv => whnf)
      | ((with_reducible refine needm_of ?_ ?_); (· first | assumption | exact decide_eq_true (by omega) | exact mkOK_of (by decide) | decide +kernel | (refine decide_eq_true ?_; simp (disch := omega) only [i64w]; omega)); conv => whnf)
      | ((with_reducible refine condm_pos ?_ ?_); (· assumption); conv => whnf)
      | ((with_reducible refine condm_neg ?_ ?_); (· assumption); conv => whnf)
      | ((with_reducible refine forceL_fv (by assumption) ?_); conv => whnf)
      | ((with_reducible refine forceL_rfv (by assumption) ?_); conv => whnf)
      | ((with_reducible refine forceNm_of ?_); conv => whnf)
      | ((with_reducible refine needm_of (fv_lenL (by assumption) (by assumption)) ?_); conv => whnf)
      | ((with_reducible refine optm_var (fv_strL (by assumption) (by assumption)) (fun s hs => ?_)); conv => whnf)
      | ((with_reducible refine forceA_of ?_); conv => whnf)
      | ((with_reducible refine forceL_pl (by assumption) ?_); conv => whnf)
      | ((with_reducible refine forceL_rpl (by assumption) ?_); conv => whnf)
      | ((with_reducible refine fltx_of (fun r hr => ?_)); conv => whnf)
      | ((refine ext_bits (by rfl) bits_n bits_f ?_); conv => whnf)
      | ((refine ext_from (by rfl) from_n from_f ?_); conv => whnf)
      | ((with_reducible apply optm_of); (· first | exact g0 | exact g1 | exact g2 | exact g3 | exact g4 | exact g5 | exact g6); conv => whnf)
      | fail)
    refine needm_of (Bool.and_eq_true_iff.2 ⟨rfl, hb 4 (by decide)⟩) ?_
    conv => whnf
    rw [e1, e2]
    refine forceL_var (prow_set (x' := { x with dbl := min (x.dbl + 1) 10 }) hcs hx (k := 4) (by rw [ho]; rfl) (by decide) rfl) (fun cs1 hcs1 => ?_)
    have hp1 := Pl.prow hcs1
    conv => whnf
    repeat' (first
      | ((with_reducible refine regx_of ?_ ?_); (· decide +kernel); conv => whnf)
      | ((with_reducible refine growx_pre ?_ ?_); (· exact ⟨_, rfl⟩); conv => whnf)
      | ((with_reducible refine needm_of ?_ ?_); (· first | assumption | exact decide_eq_true (by omega) | exact mkOK_of (by decide) | decide +kernel | (refine decide_eq_true ?_; simp (disch := omega) only [i64w]; omega)); conv => whnf)
      | ((with_reducible refine condm_pos ?_ ?_); (· assumption); conv => whnf)
      | ((with_reducible refine condm_neg ?_ ?_); (· assumption); conv => whnf)
      | ((with_reducible refine forceL_fv (by assumption) ?_); conv => whnf)
      | ((with_reducible refine forceL_rfv (by assumption) ?_); conv => whnf)
      | ((with_reducible refine forceNm_of ?_); conv => whnf)
      | ((with_reducible refine needm_of (fv_lenL (by assumption) (by assumption)) ?_); conv => whnf)
      | ((with_reducible refine optm_var (fv_strL (by assumption) (by assumption)) (fun s hs => ?_)); conv => whnf)
      | ((with_reducible refine forceA_of ?_); conv => whnf)
      | ((with_reducible refine forceL_pl (by assumption) ?_); conv => whnf)
      | ((with_reducible refine forceL_rpl (by assumption) ?_); conv => whnf)
      | ((with_reducible refine fltx_of (fun r hr => ?_)); conv => whnf)
      | ((refine ext_bits (by rfl) bits_n bits_f ?_); conv => whnf)
      | ((refine ext_from (by rfl) from_n from_f ?_); conv => whnf)
      | ((with_reducible apply optm_of); (· first | exact g0 | exact g1 | exact g2 | exact g3 | exact g4 | exact g5 | exact g6); conv => whnf)
      | fail)
    exact keepOf (v₀ := .a (.int .i64 0)) [.cells cs1 73 mk, .cells [.slc 0 0 n n] 68 false] [0, 1] rfl ⟨ren_pl hp1 _ _ _, rfl, trivial⟩ (by simp [nodupb, baseb, Ob.okb, frmOk, V.okb, A.okb, hp1.2] <;> decide) (hK2 k x hx e cs1 hcs1)
set_option maxHeartbeats 400000 in
theorem ended25 (P : List Pt) (cs : List A) (n : Nat) (mk : Bool) (hcs : cs = prow P) (hn : n = P.length) (hn5 : n ≤ 5) (i : Int) (now : Nat) (hnow : now < 18446744073709551616) (d ks : Int) {K : V → Hp → Prop}
    (hK1 : ¬ (1 ≤ i ∧ i ≤ n) → K (.a (.int .i64 1)) [.cells cs 73 mk, .cells [.slc 0 0 n n] 68 false])
    (hK2 : ∀ k x, P[k]? = some x → i = ((k + 1 : Nat) : Int) → (fin now && (decide (0 ≤ d) && decide (d ≤ ks))) = false → K (.a (.int .i64 280)) [.cells cs 73 mk, .cells [.slc 0 0 n n] 68 false])
    (hK3 : ∀ k x, P[k]? = some x → i = ((k + 1 : Nat) : Int) → (fin now && (decide (0 ≤ d) && decide (d ≤ ks))) = true → ∀ r, Ans (FloatKind.f64.format.div (FloatKind.f64.nearest d) (FloatKind.f64.nearest ks)) r → ∀ cs, cs = prow (P.set k { x with ended := true, whn := now, share := r }) → K (.a (.int .i64 0)) [.cells cs 73 mk, .cells [.slc 0 0 n n] 68 false]) :
    Go.Eng.Fn Try.prog ro 25 [.a (.ptr 1 0), .a (.int .i64 i), .a (.flt .f64 now), .a (.int .i64 d), .a (.int .i64 ks)] [.cells cs 73 mk, .cells [.slc 0 0 n n] 68 false] K := by
  have hp := Pl.prow hcs
  have hcl : cs.length = P.length * 7 := by rw [hcs, prow_length]
  refine Go.Eng.Fn.weak ?_
  refine Go.Eng.Fn.of 2 (gOf []) rfl Try.func25 rfl (Nat.le_of_ble_eq_true rfl) ?_
  conv => whnf
  repeat' (first
    | ((with_reducible refine regx_of ?_ ?_); (· decide +kernel); conv => whnf)
    | ((with_reducible refine growx_pre ?_ ?_); (· exact ⟨_, rfl⟩); conv => whnf)
    | ((with_reducible refine needm_of ?_ ?_); (· first | assumption | exact decide_eq_true (by omega) | exact mkOK_of (by decide) | decide +kernel | (refine decide_eq_true ?_; simp (disch := omega) only [i64w]; omega)); conv => whnf)
    | ((with_reducible refine condm_pos ?_ ?_); (· assumption); conv => whnf)
    | ((with_reducible refine condm_neg ?_ ?_); (· assumption); conv => whnf)
    | ((with_reducible refine forceL_fv (by assumption) ?_); conv => whnf)
    | ((with_reducible refine forceL_rfv (by assumption) ?_); conv => whnf)
    | ((with_reducible refine forceNm_of ?_); conv => whnf)
    | ((with_reducible refine needm_of (fv_lenL (by assumption) (by assumption)) ?_); conv => whnf)
    | ((with_reducible refine optm_var (fv_strL (by assumption) (by assumption)) (fun s hs => ?_)); conv => whnf)
    | ((with_reducible refine forceA_of ?_); conv => whnf)
    | ((with_reducible refine forceL_pl (by assumption) ?_); conv => whnf)
    | ((with_reducible refine forceL_rpl (by assumption) ?_); conv => whnf)
    | ((with_reducible refine fltx_of (fun r hr => ?_)); conv => whnf)
    | ((refine ext_bits (by rfl) bits_n bits_f ?_); conv => whnf)
    | ((refine ext_from (by rfl) from_n from_f ?_); conv => whnf)
    | fail)
  refine Go.Eng.Fn.frame [0, 1] (by rfl) (by exact ⟨ren_pl hp _ _ _, rfl, trivial⟩) (by simp [nodupb, V.okb, A.okb, Ob.okb, hp.2] <;> decide) (of38 P cs n mk hcs hn hn5 i (fun h => ?_) (fun k hk e o ho => ?_))
  ·
    conv => whnf
    repeat' (first
      | ((with_reducible refine regx_of ?_ ?_); (· decide +kernel); conv => whnf)
      | ((with_reducible refine growx_pre ?_ ?_); (· exact ⟨_, rfl⟩); conv => whnf)
      | ((with_reducible refine needm_of ?_ ?_); (· first | assumption | exact decide_eq_true (by omega) | exact mkOK_of (by decide) | decide +kernel | (refine decide_eq_true ?_; simp (disch := omega) only [i64w]; omega)); conv => whnf)
      | ((with_reducible refine condm_pos ?_ ?_); (· assumption); conv => whnf)
      | ((with_reducible refine condm_neg ?_ ?_); (· assumption); conv => whnf)
      | ((with_reducible refine forceL_fv (by assumption) ?_); conv => whnf)
      | ((with_reducible refine forceL_rfv (by assumption) ?_); conv => whnf)
      | ((with_reducible refine forceNm_of ?_); conv => whnf)
      | ((with_reducible refine needm_of (fv_lenL (by assumption) (by assumption)) ?_); conv => whnf)
      | ((with_reducible refine optm_var (fv_strL (by assumption) (by assumption)) (fun s hs => ?_)); conv => whnf)
      | ((with_reducible refine forceA_of ?_); conv => whnf)
      | ((with_reducible refine forceL_pl (by assumption) ?_); conv => whnf)
      | ((with_reducible refine forceL_rpl (by assumption) ?_); conv => whnf)
      | ((with_reducible refine fltx_of (fun r hr => ?_)); conv => whnf)
      | ((refine ext_bits (by rfl) bits_n bits_f ?_); conv => whnf)
      | ((refine ext_from (by rfl) from_n from_f ?_); conv => whnf)
      | fail)
    exact keepOf (v₀ := .a (.int .i64 1)) [.cells cs 73 mk, .cells [.slc 0 0 n n] 68 false] [0, 1] rfl ⟨ren_pl hp _ _ _, rfl, trivial⟩ (by simp [nodupb, baseb, Ob.okb, frmOk, V.okb, A.okb, hp.2] <;> decide) (hK1 h)
  · obtain ⟨x, hx⟩ : ∃ x, P[k]? = some x := ⟨_, List.getElem?_eq_getElem (by omega)⟩
    have hb : ∀ j, j < 7 → decide (o + j + 1 ≤ cs.length) = true := fun j hj => decide_eq_true (by omega)
    conv => whnf
    repeat' (first
      | ((with_reducible refine regx_of ?_ ?_); (· decide +kernel); conv => whnf)
      | ((with_reducible refine growx_pre ?_ ?_); (· exact ⟨_, rfl⟩); conv => whnf)
      | ((with_reducible refine needm_of ?_ ?_); (· first | assumption | exact decide_eq_true (by omega) | exact mkOK_of (by decide) | decide +kernel | (refine decide_eq_true ?_; simp (disch := omega) only [i64w]; omega)); conv => whnf)
      | ((with_reducible refine condm_pos ?_ ?_); (· assumption); conv => whnf)
      | ((with_reducible refine condm_neg ?_ ?_); (· assumption); conv => whnf)
      | ((with_reducible refine forceL_fv (by assumption) ?_); conv => whnf)
      | ((with_reducible refine forceL_rfv (by assumption) ?_); conv => whnf)
      | ((with_reducible refine forceNm_of ?_); conv => whnf)
      | ((with_reducible refine needm_of (fv_lenL (by assumption) (by assumption)) ?_); conv => whnf)
      | ((with_reducible refine optm_var (fv_strL (by assumption) (by assumption)) (fun s hs => ?_)); conv => whnf)
      | ((with_reducible refine forceA_of ?_); conv => whnf)
      | ((with_reducible refine forceL_pl (by assumption) ?_); conv => whnf)
      | ((with_reducible refine forceL_rpl (by assumption) ?_); conv => whnf)
      | ((with_reducible refine fltx_of (fun r hr => ?_)); conv => whnf)
      | ((refine ext_bits (by rfl) bits_n bits_f ?_); conv => whnf)
      | ((refine ext_from (by rfl) from_n from_f ?_); conv => whnf)
      | fail)
    refine Go.Eng.Fn.frame [] (by rfl) (by exact trivial) (by rfl) (bounded39 now hnow ?_)
    cases hf : fin now with
    | false =>
      conv => whnf
      repeat' (first
        | ((with_reducible refine regx_of ?_ ?_); (· decide +kernel); conv => whnf)
        | ((with_reducible refine growx_pre ?_ ?_); (· exact ⟨_, rfl⟩); conv => whnf)
        | ((with_reducible refine needm_of ?_ ?_); (· first | assumption | exact decide_eq_true (by omega) | exact mkOK_of (by decide) | decide +kernel | (refine decide_eq_true ?_; simp (disch := omega) only [i64w]; omega)); conv => whnf)
        | ((with_reducible refine condm_pos ?_ ?_); (· assumption); conv => whnf)
        | ((with_reducible refine condm_neg ?_ ?_); (· assumption); conv => whnf)
        | ((with_reducible refine forceL_fv (by assumption) ?_); conv => whnf)
        | ((with_reducible refine forceL_rfv (by assumption) ?_); conv => whnf)
        | ((with_reducible refine forceNm_of ?_); conv => whnf)
        | ((with_reducible refine needm_of (fv_lenL (by assumption) (by assumption)) ?_); conv => whnf)
        | ((with_reducible refine optm_var (fv_strL (by assumption) (by assumption)) (fun s hs => ?_)); conv => whnf)
        | ((with_reducible refine forceA_of ?_); conv => whnf)
        | ((with_reducible refine forceL_pl (by assumption) ?_); conv => whnf)
        | ((with_reducible refine forceL_rpl (by assumption) ?_); conv => whnf)
        | ((with_reducible refine fltx_of (fun r hr => ?_)); conv => whnf)
        | ((refine ext_bits (by rfl) bits_n bits_f ?_); conv => whnf)
        | ((refine ext_from (by rfl) from_n from_f ?_); conv => whnf)
        | fail)
      exact keepOf (v₀ := .a (.int .i64 280)) [.cells cs 73 mk, .cells [.slc 0 0 n n] 68 false] [0, 1] rfl ⟨ren_pl hp _ _ _, rfl, trivial⟩ (by simp [nodupb, baseb, Ob.okb, frmOk, V.okb, A.okb, hp.2] <;> decide) (hK2 k x hx e (by rw [hf]; rfl))
    | true =>
      by_cases h1 : d < 0
      · have c1 : decide (d < 0) = true := decide_eq_true h1
        conv => whnf
        repeat' (first
          | ((with_reducible refine regx_of ?_ ?_); (· decide +kernel); conv => whnf)
          | ((with_reducible refine growx_pre ?_ ?_); (· exact ⟨_, rfl⟩); conv => whnf)
          | ((with_reducible refine needm_of ?_ ?_); (· first | assumption | exact decide_eq_true (by omega) | exact mkOK_of (by decide) | decide +kernel | (refine decide_eq_true ?_; simp (disch := omega) only [i64w]; omega)); conv => whnf)
          | ((with_reducible refine condm_pos ?_ ?_); (· assumption); conv => whnf)
          | ((with_reducible refine condm_neg ?_ ?_); (· assumption); conv => whnf)
          | ((with_reducible refine forceL_fv (by assumption) ?_); conv => whnf)
          | ((with_reducible refine forceL_rfv (by assumption) ?_); conv => whnf)
          | ((with_reducible refine forceNm_of ?_); conv => whnf)
          | ((with_reducible refine needm_of (fv_lenL (by assumption) (by assumption)) ?_); conv => whnf)
          | ((with_reducible refine optm_var (fv_strL (by assumption) (by assumption)) (fun s hs => ?_)); conv => whnf)
          | ((with_reducible refine forceA_of ?_); conv => whnf)
          | ((with_reducible refine forceL_pl (by assumption) ?_); conv => whnf)
          | ((with_reducible refine forceL_rpl (by assumption) ?_); conv => whnf)
          | ((with_reducible refine fltx_of (fun r hr => ?_)); conv => whnf)
          | ((refine ext_bits (by rfl) bits_n bits_f ?_); conv => whnf)
          | ((refine ext_from (by rfl) from_n from_f ?_); conv => whnf)
          | fail)
        exact keepOf (v₀ := .a (.int .i64 280)) [.cells cs 73 mk, .cells [.slc 0 0 n n] 68 false] [0, 1] rfl ⟨ren_pl hp _ _ _, rfl, trivial⟩ (by simp [nodupb, baseb, Ob.okb, frmOk, V.okb, A.okb, hp.2] <;> decide) (hK2 k x hx e (by rw [hf, decide_eq_false (show ¬ 0 ≤ d by omega)]; rfl))
      · have c1 : decide (d < 0) = false := decide_eq_false h1
        by_cases h2 : d > ks
        · have c2 : decide (d > ks) = true := decide_eq_true h2
          conv => whnf
          repeat' (first
            | ((with_reducible refine regx_of ?_ ?_); (· decide +kernel); conv => whnf)
            | ((with_reducible refine growx_pre ?_ ?_); (· exact ⟨_, rfl⟩); conv => whnf)
            | ((with_reducible refine needm_of ?_ ?_); (· first | assumption | exact decide_eq_true (by omega) | exact mkOK_of (by decide) | decide +kernel | (refine decide_eq_true ?_; simp (disch := omega) only [i64w]; omega)); conv => whnf)
            | ((with_reducible refine condm_pos ?_ ?_); (· assumption); conv => whnf)
            | ((with_reducible refine condm_neg ?_ ?_); (· assumption); conv => whnf)
            | ((with_reducible refine forceL_fv (by assumption) ?_); conv => whnf)
            | ((with_reducible refine forceL_rfv (by assumption) ?_); conv => whnf)
            | ((with_reducible refine forceNm_of ?_); conv => whnf)
            | ((with_reducible refine needm_of (fv_lenL (by assumption) (by assumption)) ?_); conv => whnf)
            | ((with_reducible refine optm_var (fv_strL (by assumption) (by assumption)) (fun s hs => ?_)); conv => whnf)
            | ((with_reducible refine forceA_of ?_); conv => whnf)
            | ((with_reducible refine forceL_pl (by assumption) ?_); conv => whnf)
            | ((with_reducible refine forceL_rpl (by assumption) ?_); conv => whnf)
            | ((with_reducible refine fltx_of (fun r hr => ?_)); conv => whnf)
            | ((refine ext_bits (by rfl) bits_n bits_f ?_); conv => whnf)
            | ((refine ext_from (by rfl) from_n from_f ?_); conv => whnf)
            | fail)
          exact keepOf (v₀ := .a (.int .i64 280)) [.cells cs 73 mk, .cells [.slc 0 0 n n] 68 false] [0, 1] rfl ⟨ren_pl hp _ _ _, rfl, trivial⟩ (by simp [nodupb, baseb, Ob.okb, frmOk, V.okb, A.okb, hp.2] <;> decide) (hK2 k x hx e (by rw [hf, decide_eq_false (show ¬ d ≤ ks by omega)]; simp))
        · have c2 : decide (d > ks) = false := decide_eq_false h2
          conv => whnf
          repeat' (first
            | ((with_reducible refine regx_of ?_ ?_); (· decide +kernel); conv => whnf)
            | ((with_reducible refine growx_pre ?_ ?_); (· exact ⟨_, rfl⟩); conv => whnf)
            | ((with_reducible refine needm_of ?_ ?_); (· first | assumption | exact decide_eq_true (by omega) | exact mkOK_of (by decide) | decide +kernel | (refine decide_eq_true ?_; simp (disch := omega) only [i64w]; omega)); conv => whnf)
            | ((with_reducible refine condm_pos ?_ ?_); (· assumption); conv => whnf)
            | ((with_reducible refine condm_neg ?_ ?_); (· assumption); conv => whnf)
            | ((with_reducible refine forceL_fv (by assumption) ?_); conv => whnf)
            | ((with_reducible refine forceL_rfv (by assumption) ?_); conv => whnf)
            | ((with_reducible refine forceNm_of ?_); conv => whnf)
            | ((with_reducible refine needm_of (fv_lenL (by assumption) (by assumption)) ?_); conv => whnf)
            | ((with_reducible refine optm_var (fv_strL (by assumption) (by assumption)) (fun s hs => ?_)); conv => whnf)
            | ((with_reducible refine forceA_of ?_); conv => whnf)
            | ((with_reducible refine forceL_pl (by assumption) ?_); conv => whnf)
            | ((with_reducible refine forceL_rpl (by assumption) ?_); conv => whnf)
            | ((with_reducible refine fltx_of (fun r hr => ?_)); conv => whnf)
            | ((refine ext_bits (by rfl) bits_n bits_f ?_); conv => whnf)
            | ((refine ext_from (by rfl) from_n from_f ?_); conv => whnf)
            | fail)
          refine Go.Eng.Fn.frame [] (by rfl) (by exact trivial) (by rfl) (share16 d ks (fun r hr => ?_))
          conv => whnf
          repeat' (first
            | ((with_reducible refine regx_of ?_ ?_); (· decide +kernel); conv => whnf)
            | ((with_reducible refine growx_pre ?_ ?_); (· exact ⟨_, rfl⟩); conv => whnf)
            | ((with_reducible refine needm_of ?_ ?_); (· first | assumption | exact decide_eq_true (by omega) | exact mkOK_of (by decide) | decide +kernel | (refine decide_eq_true ?_; simp (disch := omega) only [i64w]; omega)); conv => whnf)
            | ((with_reducible refine condm_pos ?_ ?_); (· assumption); conv => whnf)
            | ((with_reducible refine condm_neg ?_ ?_); (· assumption); conv => whnf)
            | ((with_reducible refine forceL_fv (by assumption) ?_); conv => whnf)
            | ((with_reducible refine forceL_rfv (by assumption) ?_); conv => whnf)
            | ((with_reducible refine forceNm_of ?_); conv => whnf)
            | ((with_reducible refine needm_of (fv_lenL (by assumption) (by assumption)) ?_); conv => whnf)
            | ((with_reducible refine optm_var (fv_strL (by assumption) (by assumption)) (fun s hs => ?_)); conv => whnf)
            | ((with_reducible refine forceA_of ?_); conv => whnf)
            | ((with_reducible refine forceL_pl (by assumption) ?_); conv => whnf)
            | ((with_reducible refine forceL_rpl (by assumption) ?_); conv => whnf)
            | ((with_reducible refine fltx_of (fun r hr => ?_)); conv => whnf)
            | ((refine ext_bits (by rfl) bits_n bits_f ?_); conv => whnf)
            | ((refine ext_from (by rfl) from_n from_f ?_); conv => whnf)
            | ((with_reducible apply optm_of); (· first | exact g0 | exact g1 | exact g2 | exact g3 | exact g4 | exact g5 | exact g6); conv => whnf)
            | fail)
          refine needm_of (Bool.and_eq_true_iff.2 ⟨rfl, hb 1 (by decide)⟩) ?_
          conv => whnf
          refine forceL_var (prow_set (x' := { x with ended := true }) hcs hx (k := 1) (by rw [ho]; rfl) (by decide) rfl) (fun cs1 hcs1 => ?_)
          have hp1 := Pl.prow hcs1
          have hl1 : cs1.length = cs.length := by rw [hcs1, prow_length, List.length_set, hcl]
          have hx1 : (P.set k { x with ended := true })[k]? = some { x with ended := true } := by rw [List.getElem?_set, if_pos rfl, if_pos (by omega)]
          conv => whnf
          repeat' (first
            | ((with_reducible refine regx_of ?_ ?_); (· decide +kernel); conv => whnf)
            | ((with_reducible refine growx_pre ?_ ?_); (· exact ⟨_, rfl⟩); conv => whnf)
            | ((with_reducible refine needm_of ?_ ?_); (· first | assumption | exact decide_eq_true (by omega) | exact mkOK_of (by decide) | decide +kernel | (refine decide_eq_true ?_; simp (disch := omega) only [i64w]; omega)); conv => whnf)
            | ((with_reducible refine condm_pos ?_ ?_); (· assumption); conv => whnf)
            | ((with_reducible refine condm_neg ?_ ?_); (· assumption); conv => whnf)
            | ((with_reducible refine forceL_fv (by assumption) ?_); conv => whnf)
            | ((with_reducible refine forceL_rfv (by assumption) ?_); conv => whnf)
            | ((with_reducible refine forceNm_of ?_); conv => whnf)
            | ((with_reducible refine needm_of (fv_lenL (by assumption) (by assumption)) ?_); conv => whnf)
            | ((with_reducible refine optm_var (fv_strL (by assumption) (by assumption)) (fun s hs => ?_)); conv => whnf)
            | ((with_reducible refine forceA_of ?_); conv => whnf)
            | ((with_reducible refine forceL_pl (by assumption) ?_); conv => whnf)
            | ((with_reducible refine forceL_rpl (by assumption) ?_); conv => whnf)
            | ((with_reducible refine fltx_of (fun r hr => ?_)); conv => whnf)
            | ((refine ext_bits (by rfl) bits_n bits_f ?_); conv => whnf)
            | ((refine ext_from (by rfl) from_n from_f ?_); conv => whnf)
            | ((with_reducible apply optm_of); (· first | exact g0 | exact g1 | exact g2 | exact g3 | exact g4 | exact g5 | exact g6); conv => whnf)
            | fail)
          refine needm_of (Bool.and_eq_true_iff.2 ⟨rfl, by rw [hl1]; exact hb 5 (by decide)⟩) ?_
          conv => whnf
          refine forceL_var (prow_set (x' := { x with ended := true, whn := now }) hcs1 hx1 (k := 5) (by rw [ho]; rfl) (by decide) rfl) (fun cs2 hcs2 => ?_)
          have hp2 := Pl.prow hcs2
          rw [List.set_set] at hcs2
          have hl2 : cs2.length = cs.length := by rw [hcs2, prow_length, List.length_set, hcl]
          have hx2 : (P.set k { x with ended := true, whn := now })[k]? = some { x with ended := true, whn := now } := by rw [List.getElem?_set, if_pos rfl, if_pos (by omega)]
          conv => whnf
          repeat' (first
            | ((with_reducible refine regx_of ?_ ?_); (· decide +kernel); conv => whnf)
            | ((with_reducible refine growx_pre ?_ ?_); (· exact ⟨_, rfl⟩); conv => whnf)
            | ((with_reducible refine needm_of ?_ ?_); (· first | assumption | exact decide_eq_true (by omega) | exact mkOK_of (by decide) | decide +kernel | (refine decide_eq_true ?_; simp (disch := omega) only [i64w]; omega)); conv => whnf)
            | ((with_reducible refine condm_pos ?_ ?_); (· assumption); conv => whnf)
            | ((with_reducible refine condm_neg ?_ ?_); (· assumption); conv => whnf)
            | ((with_reducible refine forceL_fv (by assumption) ?_); conv => whnf)
            | ((with_reducible refine forceL_rfv (by assumption) ?_); conv => whnf)
            | ((with_reducible refine forceNm_of ?_); conv => whnf)
            | ((with_reducible refine needm_of (fv_lenL (by assumption) (by assumption)) ?_); conv => whnf)
            | ((with_reducible refine optm_var (fv_strL (by assumption) (by assumption)) (fun s hs => ?_)); conv => whnf)
            | ((with_reducible refine forceA_of ?_); conv => whnf)
            | ((with_reducible refine forceL_pl (by assumption) ?_); conv => whnf)
            | ((with_reducible refine forceL_rpl (by assumption) ?_); conv => whnf)
            | ((with_reducible refine fltx_of (fun r hr => ?_)); conv => whnf)
            | ((refine ext_bits (by rfl) bits_n bits_f ?_); conv => whnf)
            | ((refine ext_from (by rfl) from_n from_f ?_); conv => whnf)
            | ((with_reducible apply optm_of); (· first | exact g0 | exact g1 | exact g2 | exact g3 | exact g4 | exact g5 | exact g6); conv => whnf)
            | fail)
          refine needm_of (Bool.and_eq_true_iff.2 ⟨rfl, by rw [hl2]; exact hb 6 (by decide)⟩) ?_
          conv => whnf
          refine forceL_var (prow_set (x' := { x with ended := true, whn := now, share := r }) hcs2 hx2 (k := 6) (by rw [ho]; rfl) (by decide) rfl) (fun cs3 hcs3 => ?_)
          have hp3 := Pl.prow hcs3
          rw [List.set_set] at hcs3
          conv => whnf
          repeat' (first
            | ((with_reducible refine regx_of ?_ ?_); (· decide +kernel); conv => whnf)
            | ((with_reducible refine growx_pre ?_ ?_); (· exact ⟨_, rfl⟩); conv => whnf)
            | ((with_reducible refine needm_of ?_ ?_); (· first | assumption | exact decide_eq_true (by omega) | exact mkOK_of (by decide) | decide +kernel | (refine decide_eq_true ?_; simp (disch := omega) only [i64w]; omega)); conv => whnf)
            | ((with_reducible refine condm_pos ?_ ?_); (· assumption); conv => whnf)
            | ((with_reducible refine condm_neg ?_ ?_); (· assumption); conv => whnf)
            | ((with_reducible refine forceL_fv (by assumption) ?_); conv => whnf)
            | ((with_reducible refine forceL_rfv (by assumption) ?_); conv => whnf)
            | ((with_reducible refine forceNm_of ?_); conv => whnf)
            | ((with_reducible refine needm_of (fv_lenL (by assumption) (by assumption)) ?_); conv => whnf)
            | ((with_reducible refine optm_var (fv_strL (by assumption) (by assumption)) (fun s hs => ?_)); conv => whnf)
            | ((with_reducible refine forceA_of ?_); conv => whnf)
            | ((with_reducible refine forceL_pl (by assumption) ?_); conv => whnf)
            | ((with_reducible refine forceL_rpl (by assumption) ?_); conv => whnf)
            | ((with_reducible refine fltx_of (fun r hr => ?_)); conv => whnf)
            | ((refine ext_bits (by rfl) bits_n bits_f ?_); conv => whnf)
            | ((refine ext_from (by rfl) from_n from_f ?_); conv => whnf)
            | ((with_reducible apply optm_of); (· first | exact g0 | exact g1 | exact g2 | exact g3 | exact g4 | exact g5 | exact g6); conv => whnf)
            | fail)
          exact keepOf (v₀ := .a (.int .i64 0)) [.cells cs3 73 mk, .cells [.slc 0 0 n n] 68 false] [0, 1] rfl ⟨ren_pl hp3 _ _ _, rfl, trivial⟩ (by simp [nodupb, baseb, Ob.okb, frmOk, V.okb, A.okb, hp3.2] <;> decide) (hK3 k x hx e (by rw [hf, decide_eq_true (show 0 ≤ d by omega), decide_eq_true (show d ≤ ks by omega)]; rfl) r hr cs3 hcs3)
end
end Go.Proofs.Ytmnimmhpclhmfaa.PC
