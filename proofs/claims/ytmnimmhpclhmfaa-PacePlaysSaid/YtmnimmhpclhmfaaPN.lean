import Derived.Test.YtmnimmhpclhmfaaPA
namespace Go.Proofs.Ytmnimmhpclhmfaa.PC
open Go.Eng
set_option maxRecDepth 100000
theorem ticks_one {b : Nat} (h : (isNan b || (fLtK .f64 b (nearN 1) || fEqK .f64 b (nearN 1))) = true) : ticks b = 1 := by
  unfold ticks; rw [if_pos h]
theorem ticks_top {b : Nat} (h : (isNan b || (fLtK .f64 b (nearN 1) || fEqK .f64 b (nearN 1))) = false) (h2 : fGtK .f64 b (nearN 1000) = true) : ticks b = 1000 := by
  unfold ticks; rw [if_neg (by rw [h]; decide), if_pos h2]
theorem ticks_mid {b : Nat} (h : (isNan b || (fLtK .f64 b (nearN 1) || fEqK .f64 b (nearN 1))) = false) (h2 : fGtK .f64 b (nearN 1000) = false) :
    floatToIntVal .f64 (FloatKind.f64.encode ((FloatKind.f64.decode b).integral .up)) .i64 = some ((ticks b : Nat) : Int) ∧ (∀ m, m < 1001 → fLtK .f64 (nearN m) b = decide (m < ticks b)) ∧ 1 < ticks b ∧ ticks b ≤ 1000 := by
  obtain ⟨hn, h1⟩ := not_le h
  obtain ⟨v, e1, e2, e3, e4, e5⟩ := ceil_mid h1 h2
  obtain ⟨_, _, _, e6⟩ := near_small (ceilN v) (by omega)
  have ht : ticks b = ceilN v := by
    unfold ticks
    rw [if_neg (by rw [h]; decide), if_neg (by rw [h2]; decide), e5, e6, Option.getD_some, Int.toNat_natCast]
  rw [ht, e5]
  exact ⟨e6, e1, e2, e3⟩
theorem above_thou {b m : Nat} (hm : m < 1001) (h : fGtK .f64 b (nearN 1000) = true) : fLtK .f64 (nearN m) b = true := by
  rw [fGt_lt, fLt_key, fkey_near (by decide)] at h
  rw [fLt_key, fkey_near hm]
  cases hf : fkey b with
  | none => rw [hf] at h; cases h
  | some z =>
    rw [hf] at h
    have h' := of_decide_eq_true h
    refine decide_eq_true ?_
    have h1 := (near_small 1000 (by decide)).1
    have h2 := (near_small m hm).1
    have : rung (nearN m) ≤ rung (nearN 1000) := by
      rcases Nat.lt_or_ge (rung (nearN 1000)) (rung (nearN m)) with h3 | h3
      · have h4 := vmag_lt h3
        rw [h1, h2] at h4
        have := Nat.mul_le_mul_right U (show m ≤ 1000 by omega)
        omega
      · exact h3
    omega
theorem ticks_char {b n : Nat} (h : (isNan b || (fLtK .f64 b (nearN 1) || fEqK .f64 b (nearN 1))) = false) (h1 : 1 ≤ n) (h2 : n ≤ 1000) (h3 : ∀ m, 1 ≤ m → m < n → fLtK .f64 (nearN m) b = true) (h4 : n = 1000 ∨ fLtK .f64 (nearN n) b = false) : n = ticks b := by
  cases ht : fGtK .f64 b (nearN 1000) with
  | true =>
    rw [ticks_top h ht]
    rcases h4 with h4 | h4
    · exact h4
    · rw [above_thou (by omega) ht] at h4; cases h4
  | false =>
    obtain ⟨_, e1, e2, e3⟩ := ticks_mid h ht
    have a1 : n ≤ ticks b := by
      rcases Nat.lt_or_ge 1 n with h5 | h5
      · have := h3 (n - 1) (by omega) (by omega)
        rw [e1 (n - 1) (by omega)] at this
        have := of_decide_eq_true this
        omega
      · omega
    have a2 : ticks b ≤ n := by
      rcases h4 with h4 | h4
      · omega
      · rw [e1 n (by omega)] at h4
        have := of_decide_eq_false h4
        omega
    omega
theorem same_ans {o : Option Nat} {r s : Nat} (h1 : Ans o r) (h2 : Ans o s) : same r s = true := by
  unfold same
  rcases h1 with h1 | ⟨h1, n1, _⟩ <;> rcases h2 with h2 | ⟨h2, n2, _⟩
  · rw [h1] at h2; injection h2 with h2; subst h2; simp
  · rw [h1] at h2; cases h2
  · rw [h1] at h2; cases h2
  · rw [n1, n2]; rfl
section
variable {ro : Addr → A → Prop}
set_option maxHeartbeats 400000 in
theorem ticks13 (b : Nat) {K : V → Hp → Prop} (hK : ∀ n : Nat, n = ticks b → K (.a (.int .i64 (n : Int))) []) : Go.Eng.Fn Try.prog ro 13 [.a (.flt .f64 b)] [] K := by
  refine Go.Eng.Fn.weak ?_
  refine Go.Eng.Fn.of_code (gOf []) Try.func13 rfl (Nat.le_of_ble_eq_true rfl) ?_
  conv => whnf
  refine Go.Eng.Fn.frame [] (by rfl) (by exact trivial) (by rfl) (isnan32 b ?_)
  cases hn : isNan b with
  | true =>
    have h : ticks b = 1 := ticks_one (by rw [hn]; rfl)
    conv => whnf
    repeat' (first
      | ((with_reducible refine regx_of ?_ ?_); (· decide +kernel); conv => whnf)
      | ((with_reducible refine growx_pre ?_ ?_); (· exact ⟨_, rfl⟩); conv => whnf)
      | ((with_reducible refine needm_of ?_ ?_); (· first | assumption | exact decide_eq_true (by omega) | exact mkOK_of (by decide) | decide +kernel | (refine decide_eq_true ?_; simp (disch := omega) only [i64w]; omega)); conv => whnf)
      | ((with_reducible refine condm_pos ?_ ?_); (· assumption); conv => whnf)
      | ((with_reducible refine condm_neg ?_ ?_); (· assumption); conv => whnf)
      | ((with_reducible refine forceL_fv (by assumption) ?_); conv => whnf)
      | ((with_reducible refine forceL_rfv (by assumption) ?_); conv => whnf)
      | ((with_reducible refine forceNm_of ?_); conv => whnf)
      | ((with_reducible refine needm_of (fv_lenL (by assumption) (by assumption)) ?_); conv => whnf)
      | ((with_reducible refine optm_var (fv_strL (by assumption) (by assumption)) (fun s hs => ?_)); conv => whnf)
      | ((with_reducible refine forceA_of ?_); conv => whnf)
      | ((with_reducible refine fltx_of (fun r hr => ?_)); conv => whnf)
      | ((refine ext_bits (by rfl) bits_n bits_f ?_); conv => whnf)
      | ((refine ext_from (by rfl) from_n from_f ?_); conv => whnf)
      | fail)
    exact keepOf (v₀ := .a (.int .i64 (1 : Nat))) [] [] rfl trivial rfl (hK 1 h.symm)
  | false =>
    cases hl : (fLtK .f64 b (nearN 1) || fEqK .f64 b (nearN 1)) with
    | true =>
      have h : ticks b = 1 := ticks_one (by rw [hn, hl]; rfl)
      rw [one_lit] at hl
      conv => whnf
      repeat' (first
        | ((with_reducible refine regx_of ?_ ?_); (· decide +kernel); conv => whnf)
        | ((with_reducible refine growx_pre ?_ ?_); (· exact ⟨_, rfl⟩); conv => whnf)
        | ((with_reducible refine needm_of ?_ ?_); (· first | assumption | exact decide_eq_true (by omega) | exact mkOK_of (by decide) | decide +kernel | (refine decide_eq_true ?_; simp (disch := omega) only [i64w]; omega)); conv => whnf)
        | ((with_reducible refine condm_pos ?_ ?_); (· assumption); conv => whnf)
        | ((with_reducible refine condm_neg ?_ ?_); (· assumption); conv => whnf)
        | ((with_reducible refine forceL_fv (by assumption) ?_); conv => whnf)
        | ((with_reducible refine forceL_rfv (by assumption) ?_); conv => whnf)
        | ((with_reducible refine forceNm_of ?_); conv => whnf)
        | ((with_reducible refine needm_of (fv_lenL (by assumption) (by assumption)) ?_); conv => whnf)
        | ((with_reducible refine optm_var (fv_strL (by assumption) (by assumption)) (fun s hs => ?_)); conv => whnf)
        | ((with_reducible refine forceA_of ?_); conv => whnf)
        | ((with_reducible refine fltx_of (fun r hr => ?_)); conv => whnf)
        | ((refine ext_bits (by rfl) bits_n bits_f ?_); conv => whnf)
        | ((refine ext_from (by rfl) from_n from_f ?_); conv => whnf)
        | fail)
      exact keepOf (v₀ := .a (.int .i64 (1 : Nat))) [] [] rfl trivial rfl (hK 1 h.symm)
    | false =>
      have h0 : (isNan b || (fLtK .f64 b (nearN 1) || fEqK .f64 b (nearN 1))) = false := by rw [hn, hl]; rfl
      rw [one_lit] at hl
      cases ht : fGtK .f64 b (nearN 1000) with
      | true =>
        have h := ticks_top h0 ht
        rw [thou_lit] at ht
        conv => whnf
        repeat' (first
          | ((with_reducible refine regx_of ?_ ?_); (· decide +kernel); conv => whnf)
          | ((with_reducible refine growx_pre ?_ ?_); (· exact ⟨_, rfl⟩); conv => whnf)
          | ((with_reducible refine needm_of ?_ ?_); (· first | assumption | exact decide_eq_true (by omega) | exact mkOK_of (by decide) | decide +kernel | (refine decide_eq_true ?_; simp (disch := omega) only [i64w]; omega)); conv => whnf)
          | ((with_reducible refine condm_pos ?_ ?_); (· assumption); conv => whnf)
          | ((with_reducible refine condm_neg ?_ ?_); (· assumption); conv => whnf)
          | ((with_reducible refine forceL_fv (by assumption) ?_); conv => whnf)
          | ((with_reducible refine forceL_rfv (by assumption) ?_); conv => whnf)
          | ((with_reducible refine forceNm_of ?_); conv => whnf)
          | ((with_reducible refine needm_of (fv_lenL (by assumption) (by assumption)) ?_); conv => whnf)
          | ((with_reducible refine optm_var (fv_strL (by assumption) (by assumption)) (fun s hs => ?_)); conv => whnf)
          | ((with_reducible refine forceA_of ?_); conv => whnf)
          | ((with_reducible refine fltx_of (fun r hr => ?_)); conv => whnf)
          | ((refine ext_bits (by rfl) bits_n bits_f ?_); conv => whnf)
          | ((refine ext_from (by rfl) from_n from_f ?_); conv => whnf)
          | fail)
        exact keepOf (v₀ := .a (.int .i64 (1000 : Nat))) [] [] rfl trivial rfl (hK 1000 h.symm)
      | false =>
        obtain ⟨hi, _⟩ := ticks_mid h0 ht
        rw [thou_lit] at ht
        conv => whnf
        repeat' (first
          | ((with_reducible refine regx_of ?_ ?_); (· decide +kernel); conv => whnf)
          | ((with_reducible refine growx_pre ?_ ?_); (· exact ⟨_, rfl⟩); conv => whnf)
          | ((with_reducible refine needm_of ?_ ?_); (· first | assumption | exact decide_eq_true (by omega) | exact mkOK_of (by decide) | decide +kernel | (refine decide_eq_true ?_; simp (disch := omega) only [i64w]; omega)); conv => whnf)
          | ((with_reducible refine condm_pos ?_ ?_); (· assumption); conv => whnf)
          | ((with_reducible refine condm_neg ?_ ?_); (· assumption); conv => whnf)
          | ((with_reducible refine forceL_fv (by assumption) ?_); conv => whnf)
          | ((with_reducible refine forceL_rfv (by assumption) ?_); conv => whnf)
          | ((with_reducible refine forceNm_of ?_); conv => whnf)
          | ((with_reducible refine needm_of (fv_lenL (by assumption) (by assumption)) ?_); conv => whnf)
          | ((with_reducible refine optm_var (fv_strL (by assumption) (by assumption)) (fun s hs => ?_)); conv => whnf)
          | ((with_reducible refine forceA_of ?_); conv => whnf)
          | ((with_reducible refine fltx_of (fun r hr => ?_)); conv => whnf)
          | ((refine ext_bits (by rfl) bits_n bits_f ?_); conv => whnf)
          | ((refine ext_from (by rfl) from_n from_f ?_); conv => whnf)
          | fail)
        refine Go.Eng.Fn.frame [] (by rfl) (by exact trivial) (by rfl) (ceil33 b hn (fun c hc => ?_))
        rw [← hc] at hi
        obtain ⟨n, hnt⟩ : ∃ n, n = ticks b := ⟨_, rfl⟩
        rw [← hnt] at hi
        conv => whnf
        repeat' (first
          | ((with_reducible refine regx_of ?_ ?_); (· decide +kernel); conv => whnf)
          | ((with_reducible refine growx_pre ?_ ?_); (· exact ⟨_, rfl⟩); conv => whnf)
          | ((with_reducible refine needm_of ?_ ?_); (· first | assumption | exact decide_eq_true (by omega) | exact mkOK_of (by decide) | decide +kernel | (refine decide_eq_true ?_; simp (disch := omega) only [i64w]; omega)); conv => whnf)
          | ((with_reducible refine condm_pos ?_ ?_); (· assumption); conv => whnf)
          | ((with_reducible refine condm_neg ?_ ?_); (· assumption); conv => whnf)
          | ((with_reducible refine forceL_fv (by assumption) ?_); conv => whnf)
          | ((with_reducible refine forceL_rfv (by assumption) ?_); conv => whnf)
          | ((with_reducible refine forceNm_of ?_); conv => whnf)
          | ((with_reducible refine needm_of (fv_lenL (by assumption) (by assumption)) ?_); conv => whnf)
          | ((with_reducible refine optm_var (fv_strL (by assumption) (by assumption)) (fun s hs => ?_)); conv => whnf)
          | ((with_reducible refine forceA_of ?_); conv => whnf)
          | ((with_reducible refine fltx_of (fun r hr => ?_)); conv => whnf)
          | ((refine ext_bits (by rfl) bits_n bits_f ?_); conv => whnf)
          | ((refine ext_from (by rfl) from_n from_f ?_); conv => whnf)
          | fail)
        refine optm_of hi ?_
        conv => whnf
        repeat' (first
          | ((with_reducible refine regx_of ?_ ?_); (· decide +kernel); conv => whnf)
          | ((with_reducible refine growx_pre ?_ ?_); (· exact ⟨_, rfl⟩); conv => whnf)
          | ((with_reducible refine needm_of ?_ ?_); (· first | assumption | exact decide_eq_true (by omega) | exact mkOK_of (by decide) | decide +kernel | (refine decide_eq_true ?_; simp (disch := omega) only [i64w]; omega)); conv => whnf)
          | ((with_reducible refine condm_pos ?_ ?_); (· assumption); conv => whnf)
          | ((with_reducible refine condm_neg ?_ ?_); (· assumption); conv => whnf)
          | ((with_reducible refine forceL_fv (by assumption) ?_); conv => whnf)
          | ((with_reducible refine forceL_rfv (by assumption) ?_); conv => whnf)
          | ((with_reducible refine forceNm_of ?_); conv => whnf)
          | ((with_reducible refine needm_of (fv_lenL (by assumption) (by assumption)) ?_); conv => whnf)
          | ((with_reducible refine optm_var (fv_strL (by assumption) (by assumption)) (fun s hs => ?_)); conv => whnf)
          | ((with_reducible refine forceA_of ?_); conv => whnf)
          | ((with_reducible refine fltx_of (fun r hr => ?_)); conv => whnf)
          | ((refine ext_bits (by rfl) bits_n bits_f ?_); conv => whnf)
          | ((refine ext_from (by rfl) from_n from_f ?_); conv => whnf)
          | fail)
        exact keepOf (v₀ := .a (.int .i64 (n : Nat))) [] [] rfl trivial rfl (hK n hnt)
set_option maxHeartbeats 400000 in
theorem ticks14 (b : Nat) {K : V → Hp → Prop} (hK : ∀ n : Nat, n = ticks b → K (.a (.int .i64 (n : Int))) []) : Go.Eng.Fn Try.prog ro 14 [.a (.flt .f64 b)] [] K := by
  have ea := fEq_self b
  refine Go.Eng.Fn.weak ?_
  refine Go.Eng.Fn.of_code (gOf []) Try.func14 rfl (Nat.le_of_ble_eq_true rfl) ?_
  cases hn : isNan b with
  | true =>
    have ea' : (!fEqK .f64 b b) = true := by rw [ea, hn]; rfl
    have h : ticks b = 1 := ticks_one (by rw [hn]; rfl)
    conv => whnf
    repeat' (first
      | ((with_reducible refine regx_of ?_ ?_); (· decide +kernel); conv => whnf)
      | ((with_reducible refine growx_pre ?_ ?_); (· exact ⟨_, rfl⟩); conv => whnf)
      | ((with_reducible refine needm_of ?_ ?_); (· first | assumption | exact decide_eq_true (by omega) | exact mkOK_of (by decide) | decide +kernel | (refine decide_eq_true ?_; simp (disch := omega) only [i64w]; omega)); conv => whnf)
      | ((with_reducible refine condm_pos ?_ ?_); (· assumption); conv => whnf)
      | ((with_reducible refine condm_neg ?_ ?_); (· assumption); conv => whnf)
      | ((with_reducible refine forceL_fv (by assumption) ?_); conv => whnf)
      | ((with_reducible refine forceL_rfv (by assumption) ?_); conv => whnf)
      | ((with_reducible refine forceNm_of ?_); conv => whnf)
      | ((with_reducible refine needm_of (fv_lenL (by assumption) (by assumption)) ?_); conv => whnf)
      | ((with_reducible refine optm_var (fv_strL (by assumption) (by assumption)) (fun s hs => ?_)); conv => whnf)
      | ((with_reducible refine forceA_of ?_); conv => whnf)
      | ((with_reducible refine fltx_of (fun r hr => ?_)); conv => whnf)
      | ((refine ext_bits (by rfl) bits_n bits_f ?_); conv => whnf)
      | ((refine ext_from (by rfl) from_n from_f ?_); conv => whnf)
      | fail)
    exact keepOf (v₀ := .a (.int .i64 (1 : Nat))) [] [] rfl trivial rfl (hK 1 h.symm)
  | false =>
    have ea' : (!fEqK .f64 b b) = false := by rw [ea, hn]; rfl
    cases hl : (fLtK .f64 b (nearN 1) || fEqK .f64 b (nearN 1)) with
    | true =>
      have h : ticks b = 1 := ticks_one (by rw [hn, hl]; rfl)
      rw [one_lit] at hl
      conv => whnf
      repeat' (first
        | ((with_reducible refine regx_of ?_ ?_); (· decide +kernel); conv => whnf)
        | ((with_reducible refine growx_pre ?_ ?_); (· exact ⟨_, rfl⟩); conv => whnf)
        | ((with_reducible refine needm_of ?_ ?_); (· first | assumption | exact decide_eq_true (by omega) | exact mkOK_of (by decide) | decide +kernel | (refine decide_eq_true ?_; simp (disch := omega) only [i64w]; omega)); conv => whnf)
        | ((with_reducible refine condm_pos ?_ ?_); (· assumption); conv => whnf)
        | ((with_reducible refine condm_neg ?_ ?_); (· assumption); conv => whnf)
        | ((with_reducible refine forceL_fv (by assumption) ?_); conv => whnf)
        | ((with_reducible refine forceL_rfv (by assumption) ?_); conv => whnf)
        | ((with_reducible refine forceNm_of ?_); conv => whnf)
        | ((with_reducible refine needm_of (fv_lenL (by assumption) (by assumption)) ?_); conv => whnf)
        | ((with_reducible refine optm_var (fv_strL (by assumption) (by assumption)) (fun s hs => ?_)); conv => whnf)
        | ((with_reducible refine forceA_of ?_); conv => whnf)
        | ((with_reducible refine fltx_of (fun r hr => ?_)); conv => whnf)
        | ((refine ext_bits (by rfl) bits_n bits_f ?_); conv => whnf)
        | ((refine ext_from (by rfl) from_n from_f ?_); conv => whnf)
        | fail)
      exact keepOf (v₀ := .a (.int .i64 (1 : Nat))) [] [] rfl trivial rfl (hK 1 h.symm)
    | false =>
      have h0 : (isNan b || (fLtK .f64 b (nearN 1) || fEqK .f64 b (nearN 1))) = false := by rw [hn, hl]; rfl
      rw [one_lit] at hl
      conv => whnf
      repeat' (first
        | ((with_reducible refine regx_of ?_ ?_); (· decide +kernel); conv => whnf)
        | ((with_reducible refine growx_pre ?_ ?_); (· exact ⟨_, rfl⟩); conv => whnf)
        | ((with_reducible refine needm_of ?_ ?_); (· first | assumption | exact decide_eq_true (by omega) | exact mkOK_of (by decide) | decide +kernel | (refine decide_eq_true ?_; simp (disch := omega) only [i64w]; omega)); conv => whnf)
        | ((with_reducible refine condm_pos ?_ ?_); (· assumption); conv => whnf)
        | ((with_reducible refine condm_neg ?_ ?_); (· assumption); conv => whnf)
        | ((with_reducible refine forceL_fv (by assumption) ?_); conv => whnf)
        | ((with_reducible refine forceL_rfv (by assumption) ?_); conv => whnf)
        | ((with_reducible refine forceNm_of ?_); conv => whnf)
        | ((with_reducible refine needm_of (fv_lenL (by assumption) (by assumption)) ?_); conv => whnf)
        | ((with_reducible refine optm_var (fv_strL (by assumption) (by assumption)) (fun s hs => ?_)); conv => whnf)
        | ((with_reducible refine forceA_of ?_); conv => whnf)
        | ((with_reducible refine fltx_of (fun r hr => ?_)); conv => whnf)
        | ((refine ext_bits (by rfl) bits_n bits_f ?_); conv => whnf)
        | ((refine ext_from (by rfl) from_n from_f ?_); conv => whnf)
        | fail)
      refine loopx_of (fun m F H => ∃ n : Nat, 1 ≤ n ∧ n ≤ 1000 ∧ m = 1000 - n ∧ (∀ k, 1 ≤ k → k < n → fLtK .f64 (nearN k) b = true) ∧ F = [(0, .a (.flt .f64 b)), (3, .a (.int .i64 n))] ∧ H = []) 999 ?_ ?_
      · exact Into.weak [] [(0, .a (.flt .f64 b)), (3, .a (.int .i64 (1 : Nat)))] [] ⟨1, by omega, by omega, rfl, fun k h1 h2 => by omega, rfl, rfl⟩ ⟨rfl, rfl, trivial⟩ trivial rfl
      · rintro m F H ⟨n, hn1, hn2, rfl, hall, rfl, rfl⟩
        conv => whnf
        refine condm_of (fun h => ?_) (fun h => ?_)
        · have hlt : n < 1000 := by have := of_decide_eq_true h; omega
          have e4 : IntKind.i64.wrap (↑n + 1) = ((n + 1 : Nat) : Int) := by rw [i64w (by omega) (by omega)]; rfl
          conv => whnf
          repeat' (first
            | ((with_reducible refine regx_of ?_ ?_); (· decide +kernel); conv => whnf)
            | ((with_reducible refine growx_pre ?_ ?_); (· exact ⟨_, rfl⟩); conv => whnf)
            | ((with_reducible refine needm_of ?_ ?_); (· first | assumption | exact decide_eq_true (by omega) | exact mkOK_of (by decide) | decide +kernel | (refine decide_eq_true ?_; simp (disch := omega) only [i64w]; omega)); conv => whnf)
            | ((with_reducible refine condm_pos ?_ ?_); (· assumption); conv => whnf)
            | ((with_reducible refine condm_neg ?_ ?_); (· assumption); conv => whnf)
            | ((with_reducible refine forceL_fv (by assumption) ?_); conv => whnf)
            | ((with_reducible refine forceL_rfv (by assumption) ?_); conv => whnf)
            | ((with_reducible refine forceNm_of ?_); conv => whnf)
            | ((with_reducible refine needm_of (fv_lenL (by assumption) (by assumption)) ?_); conv => whnf)
            | ((with_reducible refine optm_var (fv_strL (by assumption) (by assumption)) (fun s hs => ?_)); conv => whnf)
            | ((with_reducible refine forceA_of ?_); conv => whnf)
            | ((with_reducible refine fltx_of (fun r hr => ?_)); conv => whnf)
            | ((refine ext_bits (by rfl) bits_n bits_f ?_); conv => whnf)
            | ((refine ext_from (by rfl) from_n from_f ?_); conv => whnf)
            | fail)
          have hne : FloatKind.f64.nearest (n : Int) = nearN n := by unfold nearN; rfl
          rw [hne]
          refine condm_of (fun h5 => ?_) (fun h5 => ?_)
          ·
            conv => whnf
            repeat' (first
              | ((with_reducible refine regx_of ?_ ?_); (· decide +kernel); conv => whnf)
              | ((with_reducible refine growx_pre ?_ ?_); (· exact ⟨_, rfl⟩); conv => whnf)
              | ((with_reducible refine needm_of ?_ ?_); (· first | assumption | exact decide_eq_true (by omega) | exact mkOK_of (by decide) | decide +kernel | (refine decide_eq_true ?_; simp (disch := omega) only [i64w]; omega)); conv => whnf)
              | ((with_reducible refine condm_pos ?_ ?_); (· assumption); conv => whnf)
              | ((with_reducible refine condm_neg ?_ ?_); (· assumption); conv => whnf)
              | ((with_reducible refine forceL_fv (by assumption) ?_); conv => whnf)
              | ((with_reducible refine forceL_rfv (by assumption) ?_); conv => whnf)
              | ((with_reducible refine forceNm_of ?_); conv => whnf)
              | ((with_reducible refine needm_of (fv_lenL (by assumption) (by assumption)) ?_); conv => whnf)
              | ((with_reducible refine optm_var (fv_strL (by assumption) (by assumption)) (fun s hs => ?_)); conv => whnf)
              | ((with_reducible refine forceA_of ?_); conv => whnf)
              | ((with_reducible refine fltx_of (fun r hr => ?_)); conv => whnf)
              | ((refine ext_bits (by rfl) bits_n bits_f ?_); conv => whnf)
              | ((refine ext_from (by rfl) from_n from_f ?_); conv => whnf)
              | fail)
            refine ⟨1000 - (n + 1), by omega, Into.weak [] [(0, .a (.flt .f64 b)), (3, .a (.int .i64 ((n + 1 : Nat) : Int)))] [] ⟨n + 1, by omega, by omega, rfl, fun k h1 h2 => ?_, rfl, rfl⟩ ⟨rfl, congrArg (fun z => some (V.a (.int .i64 z))) e4, trivial⟩ trivial rfl⟩
            by_cases e : k = n
            · subst e; exact h5
            · exact hall k h1 (by omega)
          ·
            conv => whnf
            repeat' (first
              | ((with_reducible refine regx_of ?_ ?_); (· decide +kernel); conv => whnf)
              | ((with_reducible refine growx_pre ?_ ?_); (· exact ⟨_, rfl⟩); conv => whnf)
              | ((with_reducible refine needm_of ?_ ?_); (· first | assumption | exact decide_eq_true (by omega) | exact mkOK_of (by decide) | decide +kernel | (refine decide_eq_true ?_; simp (disch := omega) only [i64w]; omega)); conv => whnf)
              | ((with_reducible refine condm_pos ?_ ?_); (· assumption); conv => whnf)
              | ((with_reducible refine condm_neg ?_ ?_); (· assumption); conv => whnf)
              | ((with_reducible refine forceL_fv (by assumption) ?_); conv => whnf)
              | ((with_reducible refine forceL_rfv (by assumption) ?_); conv => whnf)
              | ((with_reducible refine forceNm_of ?_); conv => whnf)
              | ((with_reducible refine needm_of (fv_lenL (by assumption) (by assumption)) ?_); conv => whnf)
              | ((with_reducible refine optm_var (fv_strL (by assumption) (by assumption)) (fun s hs => ?_)); conv => whnf)
              | ((with_reducible refine forceA_of ?_); conv => whnf)
              | ((with_reducible refine fltx_of (fun r hr => ?_)); conv => whnf)
              | ((refine ext_bits (by rfl) bits_n bits_f ?_); conv => whnf)
              | ((refine ext_from (by rfl) from_n from_f ?_); conv => whnf)
              | fail)
            exact keepOf (v₀ := .a (.int .i64 (n : Nat))) [] [] rfl trivial rfl (hK n (ticks_char h0 hn1 hn2 hall (.inr h5)))
        · have hnn : n = 1000 := by have := of_decide_eq_false h; omega
          conv => whnf
          repeat' (first
            | ((with_reducible refine regx_of ?_ ?_); (· decide +kernel); conv => whnf)
            | ((with_reducible refine growx_pre ?_ ?_); (· exact ⟨_, rfl⟩); conv => whnf)
            | ((with_reducible refine needm_of ?_ ?_); (· first | assumption | exact decide_eq_true (by omega) | exact mkOK_of (by decide) | decide +kernel | (refine decide_eq_true ?_; simp (disch := omega) only [i64w]; omega)); conv => whnf)
            | ((with_reducible refine condm_pos ?_ ?_); (· assumption); conv => whnf)
            | ((with_reducible refine condm_neg ?_ ?_); (· assumption); conv => whnf)
            | ((with_reducible refine forceL_fv (by assumption) ?_); conv => whnf)
            | ((with_reducible refine forceL_rfv (by assumption) ?_); conv => whnf)
            | ((with_reducible refine forceNm_of ?_); conv => whnf)
            | ((with_reducible refine needm_of (fv_lenL (by assumption) (by assumption)) ?_); conv => whnf)
            | ((with_reducible refine optm_var (fv_strL (by assumption) (by assumption)) (fun s hs => ?_)); conv => whnf)
            | ((with_reducible refine forceA_of ?_); conv => whnf)
            | ((with_reducible refine fltx_of (fun r hr => ?_)); conv => whnf)
            | ((refine ext_bits (by rfl) bits_n bits_f ?_); conv => whnf)
            | ((refine ext_from (by rfl) from_n from_f ?_); conv => whnf)
            | fail)
          exact keepOf (v₀ := .a (.int .i64 (n : Nat))) [] [] rfl trivial rfl (hK n (ticks_char h0 hn1 hn2 hall (.inl hnn)))
set_option maxHeartbeats 400000 in
theorem numbers3 (x y p w : Int) : Go.Eng.Fn Try.prog ro 3 [.a (.int .u64 x), .a (.int .u64 y), .a (.int .i64 p), .a (.int .i64 w)] [] (fun v _ => v = .a (.bool true)) := by
  refine Go.Eng.Fn.of_code (gOf []) Try.func3 rfl (Nat.le_of_ble_eq_true rfl) ?_
  conv => whnf
  repeat' (first
    | ((with_reducible refine regx_of ?_ ?_); (· decide +kernel); conv => whnf)
    | ((with_reducible refine growx_pre ?_ ?_); (· exact ⟨_, rfl⟩); conv => whnf)
    | ((with_reducible refine needm_of ?_ ?_); (· first | assumption | exact decide_eq_true (by omega) | exact mkOK_of (by decide) | decide +kernel | (refine decide_eq_true ?_; simp (disch := omega) only [i64w]; omega)); conv => whnf)
    | ((with_reducible refine condm_pos ?_ ?_); (· assumption); conv => whnf)
    | ((with_reducible refine condm_neg ?_ ?_); (· assumption); conv => whnf)
    | ((with_reducible refine forceL_fv (by assumption) ?_); conv => whnf)
    | ((with_reducible refine forceL_rfv (by assumption) ?_); conv => whnf)
    | ((with_reducible refine forceNm_of ?_); conv => whnf)
    | ((with_reducible refine needm_of (fv_lenL (by assumption) (by assumption)) ?_); conv => whnf)
    | ((with_reducible refine optm_var (fv_strL (by assumption) (by assumption)) (fun s hs => ?_)); conv => whnf)
    | ((with_reducible refine forceA_of ?_); conv => whnf)
    | ((with_reducible refine fltx_of (fun r hr => ?_)); conv => whnf)
    | ((refine ext_bits (by rfl) bits_n bits_f ?_); conv => whnf)
    | ((refine ext_from (by rfl) from_n from_f ?_); conv => whnf)
    | fail)
  generalize x.toNat = a
  generalize y.toNat = b
  refine Go.Eng.Fn.frame [] (by rfl) (by exact trivial) (by rfl) (less11 a b ?_)
  conv => whnf
  repeat' (first
    | ((with_reducible refine regx_of ?_ ?_); (· decide +kernel); conv => whnf)
    | ((with_reducible refine growx_pre ?_ ?_); (· exact ⟨_, rfl⟩); conv => whnf)
    | ((with_reducible refine needm_of ?_ ?_); (· first | assumption | exact decide_eq_true (by omega) | exact mkOK_of (by decide) | decide +kernel | (refine decide_eq_true ?_; simp (disch := omega) only [i64w]; omega)); conv => whnf)
    | ((with_reducible refine condm_pos ?_ ?_); (· assumption); conv => whnf)
    | ((with_reducible refine condm_neg ?_ ?_); (· assumption); conv => whnf)
    | ((with_reducible refine forceL_fv (by assumption) ?_); conv => whnf)
    | ((with_reducible refine forceL_rfv (by assumption) ?_); conv => whnf)
    | ((with_reducible refine forceNm_of ?_); conv => whnf)
    | ((with_reducible refine needm_of (fv_lenL (by assumption) (by assumption)) ?_); conv => whnf)
    | ((with_reducible refine optm_var (fv_strL (by assumption) (by assumption)) (fun s hs => ?_)); conv => whnf)
    | ((with_reducible refine forceA_of ?_); conv => whnf)
    | ((with_reducible refine fltx_of (fun r hr => ?_)); conv => whnf)
    | ((refine ext_bits (by rfl) bits_n bits_f ?_); conv => whnf)
    | ((refine ext_from (by rfl) from_n from_f ?_); conv => whnf)
    | fail)
  refine Go.Eng.Fn.frame [] (by rfl) (by exact trivial) (by rfl) (less12 a b ?_)
  have h1 : (less a b == less a b) = true := by simp
  have h2 : (less b a == less b a) = true := by simp
  generalize less a b = c1 at *
  conv => whnf
  repeat' (first
    | ((with_reducible refine regx_of ?_ ?_); (· decide +kernel); conv => whnf)
    | ((with_reducible refine growx_pre ?_ ?_); (· exact ⟨_, rfl⟩); conv => whnf)
    | ((with_reducible refine needm_of ?_ ?_); (· first | assumption | exact decide_eq_true (by omega) | exact mkOK_of (by decide) | decide +kernel | (refine decide_eq_true ?_; simp (disch := omega) only [i64w]; omega)); conv => whnf)
    | ((with_reducible refine condm_pos ?_ ?_); (· assumption); conv => whnf)
    | ((with_reducible refine condm_neg ?_ ?_); (· assumption); conv => whnf)
    | ((with_reducible refine forceL_fv (by assumption) ?_); conv => whnf)
    | ((with_reducible refine forceL_rfv (by assumption) ?_); conv => whnf)
    | ((with_reducible refine forceNm_of ?_); conv => whnf)
    | ((with_reducible refine needm_of (fv_lenL (by assumption) (by assumption)) ?_); conv => whnf)
    | ((with_reducible refine optm_var (fv_strL (by assumption) (by assumption)) (fun s hs => ?_)); conv => whnf)
    | ((with_reducible refine forceA_of ?_); conv => whnf)
    | ((with_reducible refine fltx_of (fun r hr => ?_)); conv => whnf)
    | ((refine ext_bits (by rfl) bits_n bits_f ?_); conv => whnf)
    | ((refine ext_from (by rfl) from_n from_f ?_); conv => whnf)
    | fail)
  refine Go.Eng.Fn.frame [] (by rfl) (by exact trivial) (by rfl) (less11 b a ?_)
  conv => whnf
  repeat' (first
    | ((with_reducible refine regx_of ?_ ?_); (· decide +kernel); conv => whnf)
    | ((with_reducible refine growx_pre ?_ ?_); (· exact ⟨_, rfl⟩); conv => whnf)
    | ((with_reducible refine needm_of ?_ ?_); (· first | assumption | exact decide_eq_true (by omega) | exact mkOK_of (by decide) | decide +kernel | (refine decide_eq_true ?_; simp (disch := omega) only [i64w]; omega)); conv => whnf)
    | ((with_reducible refine condm_pos ?_ ?_); (· assumption); conv => whnf)
    | ((with_reducible refine condm_neg ?_ ?_); (· assumption); conv => whnf)
    | ((with_reducible refine forceL_fv (by assumption) ?_); conv => whnf)
    | ((with_reducible refine forceL_rfv (by assumption) ?_); conv => whnf)
    | ((with_reducible refine forceNm_of ?_); conv => whnf)
    | ((with_reducible refine needm_of (fv_lenL (by assumption) (by assumption)) ?_); conv => whnf)
    | ((with_reducible refine optm_var (fv_strL (by assumption) (by assumption)) (fun s hs => ?_)); conv => whnf)
    | ((with_reducible refine forceA_of ?_); conv => whnf)
    | ((with_reducible refine fltx_of (fun r hr => ?_)); conv => whnf)
    | ((refine ext_bits (by rfl) bits_n bits_f ?_); conv => whnf)
    | ((refine ext_from (by rfl) from_n from_f ?_); conv => whnf)
    | fail)
  refine Go.Eng.Fn.frame [] (by rfl) (by exact trivial) (by rfl) (less12 b a ?_)
  generalize less b a = c2 at *
  conv => whnf
  repeat' (first
    | ((with_reducible refine regx_of ?_ ?_); (· decide +kernel); conv => whnf)
    | ((with_reducible refine growx_pre ?_ ?_); (· exact ⟨_, rfl⟩); conv => whnf)
    | ((with_reducible refine needm_of ?_ ?_); (· first | assumption | exact decide_eq_true (by omega) | exact mkOK_of (by decide) | decide +kernel | (refine decide_eq_true ?_; simp (disch := omega) only [i64w]; omega)); conv => whnf)
    | ((with_reducible refine condm_pos ?_ ?_); (· assumption); conv => whnf)
    | ((with_reducible refine condm_neg ?_ ?_); (· assumption); conv => whnf)
    | ((with_reducible refine forceL_fv (by assumption) ?_); conv => whnf)
    | ((with_reducible refine forceL_rfv (by assumption) ?_); conv => whnf)
    | ((with_reducible refine forceNm_of ?_); conv => whnf)
    | ((with_reducible refine needm_of (fv_lenL (by assumption) (by assumption)) ?_); conv => whnf)
    | ((with_reducible refine optm_var (fv_strL (by assumption) (by assumption)) (fun s hs => ?_)); conv => whnf)
    | ((with_reducible refine forceA_of ?_); conv => whnf)
    | ((with_reducible refine fltx_of (fun r hr => ?_)); conv => whnf)
    | ((refine ext_bits (by rfl) bits_n bits_f ?_); conv => whnf)
    | ((refine ext_from (by rfl) from_n from_f ?_); conv => whnf)
    | fail)
  refine Go.Eng.Fn.frame [] (by rfl) (by exact trivial) (by rfl) (ticks13 a (fun n hn => ?_))
  conv => whnf
  repeat' (first
    | ((with_reducible refine regx_of ?_ ?_); (· decide +kernel); conv => whnf)
    | ((with_reducible refine growx_pre ?_ ?_); (· exact ⟨_, rfl⟩); conv => whnf)
    | ((with_reducible refine needm_of ?_ ?_); (· first | assumption | exact decide_eq_true (by omega) | exact mkOK_of (by decide) | decide +kernel | (refine decide_eq_true ?_; simp (disch := omega) only [i64w]; omega)); conv => whnf)
    | ((with_reducible refine condm_pos ?_ ?_); (· assumption); conv => whnf)
    | ((with_reducible refine condm_neg ?_ ?_); (· assumption); conv => whnf)
    | ((with_reducible refine forceL_fv (by assumption) ?_); conv => whnf)
    | ((with_reducible refine forceL_rfv (by assumption) ?_); conv => whnf)
    | ((with_reducible refine forceNm_of ?_); conv => whnf)
    | ((with_reducible refine needm_of (fv_lenL (by assumption) (by assumption)) ?_); conv => whnf)
    | ((with_reducible refine optm_var (fv_strL (by assumption) (by assumption)) (fun s hs => ?_)); conv => whnf)
    | ((with_reducible refine forceA_of ?_); conv => whnf)
    | ((with_reducible refine fltx_of (fun r hr => ?_)); conv => whnf)
    | ((refine ext_bits (by rfl) bits_n bits_f ?_); conv => whnf)
    | ((refine ext_from (by rfl) from_n from_f ?_); conv => whnf)
    | fail)
  refine Go.Eng.Fn.frame [] (by rfl) (by exact trivial) (by rfl) (ticks14 a (fun n' hn' => ?_))
  have h3 : ((n : Int) == (n' : Int)) = true := by subst hn hn'; simp
  conv => whnf
  repeat' (first
    | ((with_reducible refine regx_of ?_ ?_); (· decide +kernel); conv => whnf)
    | ((with_reducible refine growx_pre ?_ ?_); (· exact ⟨_, rfl⟩); conv => whnf)
    | ((with_reducible refine needm_of ?_ ?_); (· first | assumption | exact decide_eq_true (by omega) | exact mkOK_of (by decide) | decide +kernel | (refine decide_eq_true ?_; simp (disch := omega) only [i64w]; omega)); conv => whnf)
    | ((with_reducible refine condm_pos ?_ ?_); (· assumption); conv => whnf)
    | ((with_reducible refine condm_neg ?_ ?_); (· assumption); conv => whnf)
    | ((with_reducible refine forceL_fv (by assumption) ?_); conv => whnf)
    | ((with_reducible refine forceL_rfv (by assumption) ?_); conv => whnf)
    | ((with_reducible refine forceNm_of ?_); conv => whnf)
    | ((with_reducible refine needm_of (fv_lenL (by assumption) (by assumption)) ?_); conv => whnf)
    | ((with_reducible refine optm_var (fv_strL (by assumption) (by assumption)) (fun s hs => ?_)); conv => whnf)
    | ((with_reducible refine forceA_of ?_); conv => whnf)
    | ((with_reducible refine fltx_of (fun r hr => ?_)); conv => whnf)
    | ((refine ext_bits (by rfl) bits_n bits_f ?_); conv => whnf)
    | ((refine ext_from (by rfl) from_n from_f ?_); conv => whnf)
    | fail)
  refine Go.Eng.Fn.frame [] (by rfl) (by exact trivial) (by rfl) (ticks13 b (fun q hq => ?_))
  conv => whnf
  repeat' (first
    | ((with_reducible refine regx_of ?_ ?_); (· decide +kernel); conv => whnf)
    | ((with_reducible refine growx_pre ?_ ?_); (· exact ⟨_, rfl⟩); conv => whnf)
    | ((with_reducible refine needm_of ?_ ?_); (· first | assumption | exact decide_eq_true (by omega) | exact mkOK_of (by decide) | decide +kernel | (refine decide_eq_true ?_; simp (disch := omega) only [i64w]; omega)); conv => whnf)
    | ((with_reducible refine condm_pos ?_ ?_); (· assumption); conv => whnf)
    | ((with_reducible refine condm_neg ?_ ?_); (· assumption); conv => whnf)
    | ((with_reducible refine forceL_fv (by assumption) ?_); conv => whnf)
    | ((with_reducible refine forceL_rfv (by assumption) ?_); conv => whnf)
    | ((with_reducible refine forceNm_of ?_); conv => whnf)
    | ((with_reducible refine needm_of (fv_lenL (by assumption) (by assumption)) ?_); conv => whnf)
    | ((with_reducible refine optm_var (fv_strL (by assumption) (by assumption)) (fun s hs => ?_)); conv => whnf)
    | ((with_reducible refine forceA_of ?_); conv => whnf)
    | ((with_reducible refine fltx_of (fun r hr => ?_)); conv => whnf)
    | ((refine ext_bits (by rfl) bits_n bits_f ?_); conv => whnf)
    | ((refine ext_from (by rfl) from_n from_f ?_); conv => whnf)
    | fail)
  refine Go.Eng.Fn.frame [] (by rfl) (by exact trivial) (by rfl) (ticks14 b (fun q' hq' => ?_))
  have h4 : ((q : Int) == (q' : Int)) = true := by subst hq hq'; simp
  conv => whnf
  repeat' (first
    | ((with_reducible refine regx_of ?_ ?_); (· decide +kernel); conv => whnf)
    | ((with_reducible refine growx_pre ?_ ?_); (· exact ⟨_, rfl⟩); conv => whnf)
    | ((with_reducible refine needm_of ?_ ?_); (· first | assumption | exact decide_eq_true (by omega) | exact mkOK_of (by decide) | decide +kernel | (refine decide_eq_true ?_; simp (disch := omega) only [i64w]; omega)); conv => whnf)
    | ((with_reducible refine condm_pos ?_ ?_); (· assumption); conv => whnf)
    | ((with_reducible refine condm_neg ?_ ?_); (· assumption); conv => whnf)
    | ((with_reducible refine forceL_fv (by assumption) ?_); conv => whnf)
    | ((with_reducible refine forceL_rfv (by assumption) ?_); conv => whnf)
    | ((with_reducible refine forceNm_of ?_); conv => whnf)
    | ((with_reducible refine needm_of (fv_lenL (by assumption) (by assumption)) ?_); conv => whnf)
    | ((with_reducible refine optm_var (fv_strL (by assumption) (by assumption)) (fun s hs => ?_)); conv => whnf)
    | ((with_reducible refine forceA_of ?_); conv => whnf)
    | ((with_reducible refine fltx_of (fun r hr => ?_)); conv => whnf)
    | ((refine ext_bits (by rfl) bits_n bits_f ?_); conv => whnf)
    | ((refine ext_from (by rfl) from_n from_f ?_); conv => whnf)
    | fail)
  refine Go.Eng.Fn.frame [] (by rfl) (by exact trivial) (by rfl) (share16 p w (fun r hr => ?_))
  conv => whnf
  repeat' (first
    | ((with_reducible refine regx_of ?_ ?_); (· decide +kernel); conv => whnf)
    | ((with_reducible refine growx_pre ?_ ?_); (· exact ⟨_, rfl⟩); conv => whnf)
    | ((with_reducible refine needm_of ?_ ?_); (· first | assumption | exact decide_eq_true (by omega) | exact mkOK_of (by decide) | decide +kernel | (refine decide_eq_true ?_; simp (disch := omega) only [i64w]; omega)); conv => whnf)
    | ((with_reducible refine condm_pos ?_ ?_); (· assumption); conv => whnf)
    | ((with_reducible refine condm_neg ?_ ?_); (· assumption); conv => whnf)
    | ((with_reducible refine forceL_fv (by assumption) ?_); conv => whnf)
    | ((with_reducible refine forceL_rfv (by assumption) ?_); conv => whnf)
    | ((with_reducible refine forceNm_of ?_); conv => whnf)
    | ((with_reducible refine needm_of (fv_lenL (by assumption) (by assumption)) ?_); conv => whnf)
    | ((with_reducible refine optm_var (fv_strL (by assumption) (by assumption)) (fun s hs => ?_)); conv => whnf)
    | ((with_reducible refine forceA_of ?_); conv => whnf)
    | ((with_reducible refine fltx_of (fun r hr => ?_)); conv => whnf)
    | ((refine ext_bits (by rfl) bits_n bits_f ?_); conv => whnf)
    | ((refine ext_from (by rfl) from_n from_f ?_); conv => whnf)
    | fail)
  refine Go.Eng.Fn.frame [] (by rfl) (by exact trivial) (by rfl) (share17 p w (fun r' hr' => ?_))
  conv => whnf
  repeat' (first
    | ((with_reducible refine regx_of ?_ ?_); (· decide +kernel); conv => whnf)
    | ((with_reducible refine growx_pre ?_ ?_); (· exact ⟨_, rfl⟩); conv => whnf)
    | ((with_reducible refine needm_of ?_ ?_); (· first | assumption | exact decide_eq_true (by omega) | exact mkOK_of (by decide) | decide +kernel | (refine decide_eq_true ?_; simp (disch := omega) only [i64w]; omega)); conv => whnf)
    | ((with_reducible refine condm_pos ?_ ?_); (· assumption); conv => whnf)
    | ((with_reducible refine condm_neg ?_ ?_); (· assumption); conv => whnf)
    | ((with_reducible refine forceL_fv (by assumption) ?_); conv => whnf)
    | ((with_reducible refine forceL_rfv (by assumption) ?_); conv => whnf)
    | ((with_reducible refine forceNm_of ?_); conv => whnf)
    | ((with_reducible refine needm_of (fv_lenL (by assumption) (by assumption)) ?_); conv => whnf)
    | ((with_reducible refine optm_var (fv_strL (by assumption) (by assumption)) (fun s hs => ?_)); conv => whnf)
    | ((with_reducible refine forceA_of ?_); conv => whnf)
    | ((with_reducible refine fltx_of (fun r hr => ?_)); conv => whnf)
    | ((refine ext_bits (by rfl) bits_n bits_f ?_); conv => whnf)
    | ((refine ext_from (by rfl) from_n from_f ?_); conv => whnf)
    | fail)
  refine Go.Eng.Fn.frame [] (by rfl) (by exact trivial) (by rfl) (same15 r r' ?_)
  rw [same_ans hr hr']
  conv => whnf
  repeat' (first
    | ((with_reducible refine regx_of ?_ ?_); (· decide +kernel); conv => whnf)
    | ((with_reducible refine growx_pre ?_ ?_); (· exact ⟨_, rfl⟩); conv => whnf)
    | ((with_reducible refine needm_of ?_ ?_); (· first | assumption | exact decide_eq_true (by omega) | exact mkOK_of (by decide) | decide +kernel | (refine decide_eq_true ?_; simp (disch := omega) only [i64w]; omega)); conv => whnf)
    | ((with_reducible refine condm_pos ?_ ?_); (· assumption); conv => whnf)
    | ((with_reducible refine condm_neg ?_ ?_); (· assumption); conv => whnf)
    | ((with_reducible refine forceL_fv (by assumption) ?_); conv => whnf)
    | ((with_reducible refine forceL_rfv (by assumption) ?_); conv => whnf)
    | ((with_reducible refine forceNm_of ?_); conv => whnf)
    | ((with_reducible refine needm_of (fv_lenL (by assumption) (by assumption)) ?_); conv => whnf)
    | ((with_reducible refine optm_var (fv_strL (by assumption) (by assumption)) (fun s hs => ?_)); conv => whnf)
    | ((with_reducible refine forceA_of ?_); conv => whnf)
    | ((with_reducible refine fltx_of (fun r hr => ?_)); conv => whnf)
    | ((refine ext_bits (by rfl) bits_n bits_f ?_); conv => whnf)
    | ((refine ext_from (by rfl) from_n from_f ?_); conv => whnf)
    | fail)
theorem top3 (W : World) (x : Int) (_ : IntKind.u64.min ≤ x ∧ x ≤ IntKind.u64.max) (y : Int) (_ : IntKind.u64.min ≤ y ∧ y ≤ IntKind.u64.max) (p : Int) (_ : IntKind.i64.min ≤ p ∧ p ≤ IntKind.i64.max) (w : Int) (_ : IntKind.i64.min ≤ w ∧ w ≤ IntKind.i64.max) :
    Go.Eng.Fn Try.prog (roOf W) 3 [.a (.int .u64 x), .a (.int .u64 y), .a (.int .i64 p), .a (.int .i64 w)] [] (fun v _ => v = .a (.bool true)) := numbers3 x y p w
end
end Go.Proofs.Ytmnimmhpclhmfaa.PC
