import Derived.Test.YtimddbgnaeeggaaDoorKA
namespace Go.Proofs.YtimddbgnaeeggaaDoor.KD
open Go.Eng
set_option maxRecDepth 100000
/-! ### The order of floats. -/
/-- A float as it is written: one NaN. -/
def Can (u : Nat) : Prop := u < 18446744073709551616 ∧ (isNan u = true → u = 9221120237041090560)
theorem can_fbits {x : Nat} (h : x < 18446744073709551616) : Can (fbits x) := ⟨fbits_lt h, fbits_ok x⟩
@[irreducible] def rk (x : Nat) : Nat := if isNan x then 18446744073709551615 else if 9223372036854775808 ≤ x then 18446744073709551615 - x else x + 9223372036854775808
@[irreducible] def gt (x y : Nat) : Nat := if rk y < rk x then x else y
theorem nan_rung {x : Nat} : isNan x = decide (9218868437227405312 < rung x) := by unfold isNan bInf; rfl
theorem rk_nan {x : Nat} (h : isNan x = true) : rk x = 18446744073709551615 := by unfold rk; rw [if_pos h]
theorem rk_neg {x : Nat} (h : isNan x = false) (h2 : 9223372036854775808 ≤ x) : rk x = 18446744073709551615 - x := by unfold rk; rw [if_neg (by rw [h]; decide), if_pos h2]
theorem rk_pos {x : Nat} (h : isNan x = false) (h2 : x < 9223372036854775808) : rk x = x + 9223372036854775808 := by unfold rk; rw [if_neg (by rw [h]; decide), if_neg (by omega)]
theorem num_rung {x : Nat} (hx : x < 18446744073709551616) (h : isNan x = false) : (x < 9223372036854775808 ∧ sgn x = false ∧ rung x = x ∧ x ≤ 9218868437227405312) ∨ (9223372036854775808 ≤ x ∧ sgn x = true ∧ rung x = x - 9223372036854775808 ∧ x ≤ 9223372036854775808 + 9218868437227405312) := by
  rw [nan_rung] at h
  have h := of_decide_eq_false h
  unfold rung bSign at h
  by_cases h1 : x < 9223372036854775808
  · left
    refine ⟨h1, by unfold sgn bSign; rw [Nat.div_eq_of_lt h1]; rfl, by unfold rung bSign; exact Nat.mod_eq_of_lt h1, by omega⟩
  · right
    refine ⟨by omega, ?_, by unfold rung bSign; omega, by omega⟩
    unfold sgn bSign
    have : x / 9223372036854775808 = 1 := by omega
    rw [this]; rfl
theorem rk_lt_top {x : Nat} (hx : x < 18446744073709551616) (h : isNan x = false) : rk x < 18446744073709551615 := by
  rcases num_rung hx h with ⟨h1, _, _, h4⟩ | ⟨h1, _, _, h4⟩
  · rw [rk_pos h h1]; omega
  · rw [rk_neg h h1]; omega
theorem rk_inj {u w : Nat} (hu : Can u) (hw : Can w) (h : rk u = rk w) : u = w := by
  cases hun : isNan u with
  | true =>
    cases hwn : isNan w with
    | true => rw [hu.2 hun, hw.2 hwn]
    | false =>
      have := rk_lt_top hw.1 hwn
      rw [rk_nan hun] at h; omega
  | false =>
    cases hwn : isNan w with
    | true =>
      have := rk_lt_top hu.1 hun
      rw [rk_nan hwn] at h; omega
    | false =>
      rcases num_rung hu.1 hun with ⟨h1, _, _, h4⟩ | ⟨h1, _, _, h4⟩ <;> rcases num_rung hw.1 hwn with ⟨k1, _, _, k4⟩ | ⟨k1, _, _, k4⟩
      · rw [rk_pos hun h1, rk_pos hwn k1] at h; omega
      · rw [rk_pos hun h1, rk_neg hwn k1] at h; omega
      · rw [rk_neg hun h1, rk_pos hwn k1] at h; omega
      · rw [rk_neg hun h1, rk_neg hwn k1] at h; omega
theorem can_gt {u w : Nat} (hu : Can u) (hw : Can w) : Can (gt u w) := by unfold gt; split <;> assumption
theorem gt_right {u w : Nat} (_ : Can u) (_ : Can w) : (gt u w = w) ↔ rk u ≤ rk w := by
  unfold gt
  split
  · constructor
    · intro h; rw [h]; exact Nat.le_refl _
    · intro h; omega
  · exact ⟨fun _ => by omega, fun _ => rfl⟩
theorem gt_comm {u w : Nat} (hu : Can u) (hw : Can w) : gt u w = gt w u := by
  unfold gt
  by_cases h1 : rk w < rk u
  · rw [if_pos h1, if_neg (by omega)]
  · by_cases h2 : rk u < rk w
    · rw [if_neg h1, if_pos h2]
    · rw [if_neg h1, if_neg h2]
      exact (rk_inj hu hw (by omega)).symm
theorem can_fb {u : Nat} (hu : Can u) : fbits u = u := by
  cases h : isNan u with
  | true => rw [fbits_nan h, hu.2 h]
  | false => exact fbits_num h
/-- Above, by the document's words. -/
@[irreducible] def aboveB (x y : Nat) : Bool := if isNan x then !isNan y else if isNan y then false else (fGtK .f64 x y || ((fEqK .f64 x 0 && fEqK .f64 y 0) && (!sgn x && sgn y)))
theorem rung_le {x : Nat} (h : isNan x = false) : rung x ≤ bInf := by unfold isNan at h; have := of_decide_eq_false h; omega
theorem fkey_p {x : Nat} (h : isNan x = false) (h2 : sgn x = false) (h3 : rung x = x) : fkey x = some (x : Int) := by
  have hi := rung_le h
  rw [h3] at hi
  unfold fkey
  rw [h2, h3, if_pos hi, if_neg (by decide)]
theorem fkey_m {x : Nat} (h : isNan x = false) (h2 : sgn x = true) (h3 : rung x = x - 9223372036854775808) : fkey x = some (-((x - 9223372036854775808 : Nat) : Int)) := by
  have hi := rung_le h
  rw [h3] at hi
  unfold fkey
  rw [h2, h3, if_pos hi, if_pos rfl]
theorem fkey_0 : fkey 0 = some 0 := by decide
theorem above_rk {x y : Nat} (hx : x < 18446744073709551616) (hy : y < 18446744073709551616) : aboveB x y = decide (rk (fbits y) < rk (fbits x)) := by
  unfold aboveB
  cases hxn : isNan x with
  | true =>
    rw [if_pos rfl, fbits_nan hxn, rk_nan quiet_nan]
    cases hyn : isNan y with
    | true => rw [fbits_nan hyn, rk_nan quiet_nan]; decide
    | false =>
      rw [fbits_num hyn]
      exact (decide_eq_true (rk_lt_top hy hyn)).symm
  | false =>
    rw [if_neg (by decide), fbits_num hxn]
    cases hyn : isNan y with
    | true =>
      have := rk_lt_top hx hxn
      rw [if_pos rfl, fbits_nan hyn, rk_nan quiet_nan, decide_eq_false (by omega)]
    | false =>
      rw [if_neg (by decide), fbits_num hyn, fGt_lt, fLt_key, fEq_key, fEq_key, fkey_0]
      rcases num_rung hx hxn with ⟨h1, h2, h3, h4⟩ | ⟨h1, h2, h3, h4⟩ <;> rcases num_rung hy hyn with ⟨k1, k2, k3, k4⟩ | ⟨k1, k2, k3, k4⟩
      · rw [fkey_p hxn h2 h3, fkey_p hyn k2 k3, rk_pos hxn h1, rk_pos hyn k1, h2, k2]
        simp only [Bool.not_false, Bool.and_false, Bool.or_false]
        exact decide_eq_decide.2 (by omega)
      · rw [fkey_p hxn h2 h3, fkey_m hyn k2 k3, rk_pos hxn h1, rk_neg hyn k1, h2, k2]
        simp only [Bool.not_false, Bool.and_true]
        rw [← Bool.decide_and, ← Bool.decide_or]
        exact decide_eq_decide.2 (by omega)
      · rw [fkey_m hxn h2 h3, fkey_p hyn k2 k3, rk_neg hxn h1, rk_pos hyn k1, h2, k2]
        simp only [Bool.and_false, Bool.or_false]
        exact decide_eq_decide.2 (by omega)
      · rw [fkey_m hxn h2 h3, fkey_m hyn k2 k3, rk_neg hxn h1, rk_neg hyn k1, h2, k2]
        simp only [Bool.not_true, Bool.false_and, Bool.and_false, Bool.or_false]
        exact decide_eq_decide.2 (by omega)
theorem i64s {x : Nat} (hx : x < 18446744073709551616) : decide (IntKind.i64.wrap (x : Int) < 0) = sgn x := by
  by_cases h : x < 9223372036854775808
  · have e : sgn x = false := by unfold sgn bSign; rw [Nat.div_eq_of_lt h]; rfl
    rw [e, i64w (by omega) (by omega)]
    exact decide_eq_false (by omega)
  · have e : sgn x = true := by
      unfold sgn bSign
      have : x / 9223372036854775808 = 1 := by omega
      rw [this]; rfl
    rw [e]
    have : IntKind.i64.wrap (x : Int) = (x : Int) - 18446744073709551616 := by
      unfold IntKind.wrap
      show (if (true && decide ((x : Int) % 18446744073709551616 ≥ 9223372036854775808)) = true then (x : Int) % 18446744073709551616 - 18446744073709551616 else (x : Int) % 18446744073709551616) = _
      rw [Int.emod_eq_of_lt (by omega) (by omega), if_pos (by simp; omega)]
    rw [this]
    exact decide_eq_true (by omega)
end Go.Proofs.YtimddbgnaeeggaaDoor.KD
