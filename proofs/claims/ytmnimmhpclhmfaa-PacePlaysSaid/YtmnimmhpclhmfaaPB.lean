import Derived.Test.YtmnimmhpclhmfaaEngJ
namespace Go.Proofs.Ytmnimmhpclhmfaa.PC
open Go.Eng
set_option maxRecDepth 100000
/-! ### Whole numbers as floats. -/
@[irreducible] def U : Nat := 2 ^ 1074
@[irreducible] def nearN (m : Nat) : Nat := FloatKind.f64.nearest (m : Int)
theorem near_small : ∀ m, m < 1001 → vmag (rung (nearN m)) = m * U ∧ sgn (nearN m) = false ∧ rung (nearN m) ≤ bInf ∧ floatToIntVal .f64 (nearN m) .i64 = some (m : Int) := by unfold nearN U; decide +kernel
theorem one_lit : nearN 1 = 4607182418800017408 := by unfold nearN; decide +kernel
theorem thou_lit : nearN 1000 = 4652007308841189376 := by unfold nearN; decide +kernel
theorem fkey_pos {b : Nat} (h : rung b ≤ bInf) (hs : sgn b = false) : fkey b = some (rung b : Int) := by
  unfold fkey; rw [if_pos h, hs]; rfl
theorem fkey_near {m : Nat} (hm : m < 1001) : fkey (nearN m) = some (rung (nearN m) : Int) := by
  obtain ⟨_, h2, h3, _⟩ := near_small m hm
  exact fkey_pos h3 h2
/-- A float above a whole number. -/
theorem near_lt {m b : Nat} (hm : m < 1001) {z : Int} (hb : fkey b = some z) (hz : 0 ≤ z) : fLtK .f64 (nearN m) b = decide (m * U < vmag z.toNat) := by
  obtain ⟨h1, _, _, _⟩ := near_small m hm
  rw [fLt_key, fkey_near hm, hb]
  show decide _ = decide _
  rw [decide_eq_decide, ← h1, vmag_lt_iff]
  omega
theorem gt_one {b : Nat} (h : fGtK .f64 b (nearN 1) = true) : ∃ z, fkey b = some z ∧ 0 ≤ z ∧ U < vmag z.toNat := by
  rw [fGt_lt, fLt_key, fkey_near (by decide)] at h
  cases hb : fkey b with
  | none => rw [hb] at h; cases h
  | some z =>
    rw [hb] at h
    have h' : ((rung (nearN 1) : Nat) : Int) < z := of_decide_eq_true h
    refine ⟨z, rfl, by omega, ?_⟩
    obtain ⟨h1, _, _, _⟩ := near_small 1 (by decide)
    rw [Nat.one_mul] at h1
    rw [← h1, vmag_lt_iff]
    omega
/-- The least whole number that is not below. -/
def ceilN (v : Nat) : Nat := (v + (U - 1)) / U
theorem U_pos : 0 < U := by unfold U; exact Nat.two_pow_pos 1074
theorem ceil_lt (m v : Nat) : m * U < v ↔ m < ceilN v := by
  unfold ceilN
  rw [Nat.lt_iff_add_one_le (m := m) (n := (v + (U - 1)) / U), Nat.le_div_iff_mul_le U_pos, Nat.succ_mul]
  have := U_pos
  omega
theorem cut_up (m d : Nat) (h : d ≤ m.log2 + 2) : Ieee.Toward.up.cut false m d = (m + (2 ^ d - 1)) / 2 ^ d := by
  unfold Ieee.Toward.cut
  have hp : 0 < 2 ^ d := Nat.two_pow_pos d
  simp only [Nat.min_eq_left h, Nat.shiftLeft_eq, Nat.one_mul, Bool.not_false, Bool.true_and]
  have hdm := Nat.div_add_mod m (2 ^ d)
  have hlt := Nat.mod_lt m hp
  generalize hq : m / 2 ^ d = q at *
  generalize hr : m % 2 ^ d = r at *
  generalize 2 ^ d = g at *
  subst hdm
  by_cases h0 : r = 0
  · subst h0
    have e : ((0 : Nat) != 0).toNat = 0 := by decide
    rw [e, Nat.add_zero, Nat.add_zero, Nat.add_comm, Nat.add_mul_div_left _ _ hp, Nat.div_eq_of_lt (by omega)]
    omega
  · have e : (r != 0).toNat = 1 := by simp [h0]
    rw [e, Nat.add_assoc, Nat.add_comm (g * q), Nat.add_mul_div_left _ _ hp]
    have : (r + (g - 1)) / g = 1 := by
      rw [show r + (g - 1) = (r - 1) + g by omega, Nat.add_div_right _ hp, Nat.div_eq_of_lt (by omega)]
    omega
theorem div_scale (m i n : Nat) (h : i ≤ n) : (m * 2 ^ i + (2 ^ n - 1)) / 2 ^ n = (m + (2 ^ (n - i) - 1)) / 2 ^ (n - i) := by
  have e : 2 ^ n = 2 ^ i * 2 ^ (n - i) := by rw [← Nat.pow_add]; congr 1; omega
  have p1 := Nat.two_pow_pos i
  have p2 := Nat.two_pow_pos (n - i)
  have p3 := Nat.two_pow_pos n
  generalize ha : 2 ^ i = a at *
  generalize hc : 2 ^ (n - i) = c at *
  rw [e]
  rw [e] at p3
  clear ha hc e
  have key : ∀ x k : Nat, 0 < k → ((x + (k - 1)) / k = if x % k = 0 then x / k else x / k + 1) := by
    intro x k hk
    have hdm := Nat.div_add_mod x k
    have hlt := Nat.mod_lt x hk
    generalize hq : x / k = q at *
    generalize hr : x % k = r at *
    subst hdm
    split
    · rename_i h0
      subst h0
      rw [Nat.add_zero, Nat.add_comm, Nat.add_mul_div_left _ _ hk, Nat.div_eq_of_lt (by omega)]
      omega
    · rw [Nat.add_assoc, Nat.add_comm (k * q), Nat.add_mul_div_left _ _ hk, show r + (k - 1) = (r - 1) + k by omega, Nat.add_div_right _ hk, Nat.div_eq_of_lt (by omega)]
      omega
  rw [key _ _ p3, key _ _ p2, Nat.mul_comm m a, Nat.mul_div_mul_left _ _ p1, Nat.mul_mod_mul_left]
  have : (a * (m % c) = 0) ↔ (m % c = 0) := by
    constructor
    · intro h; rcases Nat.mul_eq_zero.1 h with h | h <;> omega
    · intro h; rw [h, Nat.mul_zero]
  simp only [this]
/-- Rounding up a float between 1 and 1000. -/
theorem ceil_mid {b : Nat} (h1 : fGtK .f64 b (nearN 1) = true) (h2 : fGtK .f64 b (nearN 1000) = false) :
    ∃ v, (∀ m, m < 1001 → fLtK .f64 (nearN m) b = decide (m < ceilN v)) ∧ 1 < ceilN v ∧ ceilN v ≤ 1000 ∧ isNan b = false ∧ FloatKind.f64.encode ((FloatKind.f64.decode b).integral .up) = nearN (ceilN v) := by
  obtain ⟨z, hz, hz0, hzU⟩ := gt_one h1
  have hlt : ∀ m, m < 1001 → fLtK .f64 (nearN m) b = decide (m < ceilN (vmag z.toNat)) := fun m hm => by
    rw [near_lt hm hz hz0, decide_eq_decide, ceil_lt]
  have c1 : 1 < ceilN (vmag z.toNat) := by rw [← ceil_lt, Nat.one_mul]; exact hzU
  have c2 : ceilN (vmag z.toNat) ≤ 1000 := by
    have := hlt 1000 (by decide)
    rw [fGt_lt, this] at h2
    have := of_decide_eq_false h2
    omega
  refine ⟨vmag z.toNat, hlt, c1, c2, by rw [fkey_nan, hz]; rfl, ?_⟩
  obtain ⟨hr, hzs⟩ := fkey_some hz
  have hU := U_pos
  have hv0 : vmag 0 = 0 := vmag_zero
  have hs : sgn b = false := by
    cases hs : sgn b with
    | false => rfl
    | true =>
      rw [hs] at hzs
      simp only [sg, if_true] at hzs
      have : z.toNat = 0 := by omega
      rw [this, hv0] at hzU
      omega
  rw [hs] at hzs
  have hzr : z.toNat = rung b := by simp only [sg, Bool.false_eq_true, if_false] at hzs; omega
  rw [hzr] at hzU hlt c1 c2 ⊢
  have hle : vmag (rung b) ≤ 1000 * U := by
    have := ceil_lt 1000 (vmag (rung b))
    omega
  have hfin : rung b < bInf := by
    rcases Nat.lt_or_eq_of_le hr with h | h
    · exact h
    · rw [h] at hle
      have : 1000 * U < vmag bInf := by unfold U; decide +kernel
      omega
  obtain ⟨m, i, hm, hmi⟩ := read_fin b hfin
  show Ieee.double.write ((Ieee.double.read b).integral .up) = _
  rw [hm, hs]
  have hi : i ≤ 1074 := by
    rcases Nat.lt_or_ge 1074 i with h | h
    · exfalso
      -- too great
      have h9 : rung b < 4652007308841189377 := by
        have := near_small 1000 (by decide)
        rw [thou_lit] at this
        have hh : rung 4652007308841189376 = 4652007308841189376 := by decide
        rw [hh] at this
        rcases Nat.lt_or_ge (rung b) 4652007308841189377 with h' | h'
        · exact h'
        · have := vmag_lt (r := 4652007308841189376) (s := rung b) (by omega)
          omega
      have e1 : Ieee.double.signWeight = bSign := by decide
      have e2 : Ieee.double.binade = bBin := by decide
      have e3 : Ieee.double.infRung = bInf := by decide
      have e4 : Ieee.double.leastPlace = -1074 := by decide
      unfold Ieee.Format.read at hm
      simp only [e1, e2, e3, e4] at hm
      rw [show b % bSign = rung b from rfl] at hm
      by_cases hb : rung b < bBin
      · rw [if_pos hb] at hm
        injection hm with _ _ hm
        omega
      · rw [if_neg hb, if_pos hfin] at hm
        injection hm with _ _ hm
        unfold bBin at hm
        omega
    · exact h
  simp only [Ieee.Datum.integral]
  have e1 : (-1074 + (i : Int)).toNat = 0 := by omega
  have e2 : (-(-1074 + (i : Int))).toNat = 1074 - i := by omega
  rw [e1, e2, Nat.shiftLeft_zero]
  have hm0 : m ≠ 0 := by
    intro h; subst h; rw [Nat.zero_mul] at hmi; omega
  have hlog : 1074 - i ≤ m.log2 := by
    rw [Nat.le_log2 hm0]
    have e : U = 2 ^ (1074 - i) * 2 ^ i := by unfold U; rw [← Nat.pow_add]; congr 1; omega
    rw [← hmi, e] at hzU
    exact Nat.le_of_lt (Nat.lt_of_mul_lt_mul_right hzU)
  have eC : (vmag (rung b) + (2 ^ 1074 - 1)) / 2 ^ 1074 = ceilN (vmag (rung b)) := by unfold ceilN U; rfl
  rw [cut_up m (1074 - i) (by omega), ← div_scale m i 1074 hi, hmi, eC]
  unfold nearN
  show Ieee.double.write (.number false (ceilN (vmag (rung b))) 0) = FloatKind.f64.encode (.number _ _ 0)
  have e3 : decide (((ceilN (vmag (rung b)) : Nat) : Int) < 0) = false := decide_eq_false (by omega)
  rw [e3, Int.natAbs_natCast]
  rfl
end Go.Proofs.Ytmnimmhpclhmfaa.PC
