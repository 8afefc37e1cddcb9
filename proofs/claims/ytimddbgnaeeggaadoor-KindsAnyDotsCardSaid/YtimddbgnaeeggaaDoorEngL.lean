/- The engine, parts L. -/
import Derived.Test.YtimddbgnaeeggaaDoorEngK
/- The engine, part L: sums, differences and quotients by powers of two of floats of 64 bits, by their rungs. -/
set_option linter.unusedVariables false
namespace Go.Eng
/-- The number that a float is, in units of the least place. -/
def fval (b : Nat) : Int := sg (sgn b) (vmag (rung b))
theorem sg_abs (s : Bool) (n : Nat) : (sg s n).natAbs = n := by
  unfold sg; split <;> omega
theorem read_fin2 (b : Nat) (h : rung b < bInf) : ∃ m i : Nat, Ieee.double.read b = .number (sgn b) m (-1074 + i) ∧ m * 2 ^ i = vmag (rung b) ∧ m < 2 * bBin := by
  have e1 : Ieee.double.signWeight = bSign := by decide
  have e2 : Ieee.double.binade = bBin := by decide
  have e3 : Ieee.double.infRung = bInf := by decide
  have e4 : Ieee.double.leastPlace = -1074 := by decide
  unfold Ieee.Format.read
  simp only [e1, e2, e3, e4]
  rw [show b % bSign = rung b from rfl]
  have hp := bBin_pos
  by_cases h1 : rung b < bBin
  · refine ⟨rung b, 0, ?_, by unfold vmag; rw [if_pos h1]; simp, by omega⟩
    rw [if_pos h1]; rfl
  · have := Nat.mod_lt (rung b) hp
    refine ⟨bBin + rung b % bBin, rung b / bBin - 1, ?_, by unfold vmag; rw [if_neg h1], by omega⟩
    rw [if_neg h1, if_pos h]; rfl
theorem bInf_lt : bInf < bSign := by decide
theorem word_rung (s : Bool) (R : Nat) (h : R ≤ bInf) : rung (Ieee.double.word s R) = R ∧ sgn (Ieee.double.word s R) = s := by
  have e1 : Ieee.double.signWeight = bSign := by decide
  have hl := bInf_lt
  unfold Ieee.Format.word rung sgn
  rw [e1]
  have hs : 0 < bSign := by omega
  generalize bSign = S at *
  cases s with
  | true =>
    rw [if_pos rfl, Nat.add_mod_left, Nat.mod_eq_of_lt (by omega), Nat.add_div_left _ hs, Nat.div_eq_of_lt (by omega)]
    exact ⟨rfl, rfl⟩
  | false =>
    rw [if_neg (by decide), Nat.mod_eq_of_lt (by omega), Nat.div_eq_of_lt (by omega)]
    exact ⟨rfl, rfl⟩
theorem word_key (s : Bool) (R : Nat) (h : R ≤ bInf) : fkey (Ieee.double.word s R) = some (sg s R) := by
  obtain ⟨h1, h2⟩ := word_rung s R h
  unfold fkey
  rw [h1, h2, if_pos h]
  rfl
/-- What a rounded number lies between. -/
def Near (T : Nat) (R : Nat) : Prop := R ≤ bInf ∧ ∀ r, r ≤ bInf → (vmag r ≤ T → r ≤ R) ∧ (T ≤ vmag r → R ≤ r)
theorem Near.exact {r R : Nat} (h : Near (vmag r) R) (hr : r ≤ bInf) : R = r := by
  have h1 := (h.2 r hr).1 (Nat.le_refl _)
  have h2 := (h.2 r hr).2 (Nat.le_refl _)
  omega
theorem sum_res (s t : Bool) (m n i j : Nat) : ∃ neg R, ((Ieee.Datum.number s m (-1074 + i)).sum (.number t n (-1074 + j))).map Ieee.double.write = some (Ieee.double.word neg R)
    ∧ (sg s (m * 2 ^ i) + sg t (n * 2 ^ j) ≠ 0 → neg = decide (sg s (m * 2 ^ i) + sg t (n * 2 ^ j) < 0)) ∧ Near (sg s (m * 2 ^ i) + sg t (n * 2 ^ j)).natAbs R := by
  have e : min (-1074 + (i : Int)) (-1074 + (j : Int)) = -1074 + ((min i j : Nat) : Int) := by omega
  have e1 : (-1074 + (i : Int) - (-1074 + ((min i j : Nat) : Int))).toNat = i - min i j := by omega
  have e2 : (-1074 + (j : Int) - (-1074 + ((min i j : Nat) : Int))).toNat = j - min i j := by omega
  have t1 : sg s (m * 2 ^ i) = sg s (m * 2 ^ (i - min i j)) * ((2 ^ min i j : Nat) : Int) := by
    rw [← sg_mul, Nat.mul_assoc, ← Nat.pow_add, Nat.sub_add_cancel (by omega)]
  have t2 : sg t (n * 2 ^ j) = sg t (n * 2 ^ (j - min i j)) * ((2 ^ min i j : Nat) : Int) := by
    rw [← sg_mul, Nat.mul_assoc, ← Nat.pow_add, Nat.sub_add_cancel (by omega)]
  simp only [Ieee.Datum.sum, Option.map_some, signed_eq, e, e1, e2, t1, t2, Ieee.Format.write, ← Int.add_mul]
  generalize sg s (m * 2 ^ (i - min i j)) + sg t (n * 2 ^ (j - min i j)) = T
  generalize min i j = b
  rw [nearest_eq]
  have pb := Nat.two_pow_pos b
  have pbI : (0 : Int) < ((2 ^ b : Nat) : Int) := by omega
  refine ⟨_, _, rfl, fun h => ?_, nearR_le _ _ _, fun r hr => ?_⟩
  · have hT : T ≠ 0 := fun h0 => h (by rw [h0, Int.zero_mul])
    rw [if_neg hT]
    rw [decide_eq_decide]
    constructor
    · intro h; exact Int.mul_neg_of_neg_of_pos h pbI
    · intro h
      rcases Int.lt_or_le T 0 with h1 | h1
      · exact h1
      · have := Int.mul_nonneg h1 (Int.le_of_lt pbI); omega
  · have hb := nearR_both (if T = 0 then s && t else decide (T < 0)) T.natAbs (-1074 + b) 0 b (by omega) r hr
    rw [Nat.pow_zero, Nat.mul_one] at hb
    have ea : (T * ((2 ^ b : Nat) : Int)).natAbs = T.natAbs * 2 ^ b := by rw [Int.natAbs_mul, Int.natAbs_natCast]
    rw [ea]
    exact hb
theorem add_res {x y : Nat} (hx : rung x < bInf) (hy : rung y < bInf) : ∃ neg R, FloatKind.f64.format.add x y = some (Ieee.double.word neg R) ∧ (fval x + fval y ≠ 0 → neg = decide (fval x + fval y < 0)) ∧ Near (fval x + fval y).natAbs R := by
  obtain ⟨m, i, h1, h2⟩ := read_fin x hx
  obtain ⟨n, j, h3, h4⟩ := read_fin y hy
  unfold fval
  rw [← h2, ← h4]
  show ∃ neg R, ((Ieee.double.read x).sum (Ieee.double.read y)).map Ieee.double.write = _ ∧ _
  rw [h1, h3]
  exact sum_res _ _ _ _ _ _
theorem sg_not (s : Bool) (n : Nat) : sg (!s) n = - sg s n := by cases s <;> simp [sg]
theorem sub_res {x y : Nat} (hx : rung x < bInf) (hy : rung y < bInf) : ∃ neg R, FloatKind.f64.format.sub x y = some (Ieee.double.word neg R) ∧ (fval x - fval y ≠ 0 → neg = decide (fval x - fval y < 0)) ∧ Near (fval x - fval y).natAbs R := by
  obtain ⟨m, i, h1, h2⟩ := read_fin x hx
  obtain ⟨n, j, h3, h4⟩ := read_fin y hy
  unfold fval
  rw [Int.sub_eq_add_neg, ← sg_not, ← h2, ← h4]
  show ∃ neg R, ((Ieee.double.read x).sum (Ieee.double.read y).opposite).map Ieee.double.write = _ ∧ _
  rw [h1, h3]
  exact sum_res _ _ _ _ _ _
/-- A float's quotient by a power of two. -/
theorem div_res {x y j : Nat} (hx : rung x < bInf) (hy : Ieee.double.read y = .number false (2 ^ 52) ((j : Int) - 52)) : ∃ R, FloatKind.f64.format.div x y = some (Ieee.double.word (sgn x) R) ∧ R ≤ bInf ∧
    ∀ r, r ≤ bInf → (vmag r * 2 ^ j ≤ vmag (rung x) → r ≤ R) ∧ (vmag (rung x) ≤ vmag r * 2 ^ j → R ≤ r) := by
  obtain ⟨m, i, h1, h2, h3⟩ := read_fin2 x hx
  show ∃ R, ((Ieee.double.read x).quotient 54 (Ieee.double.read y)).map Ieee.double.write = _ ∧ _
  rw [h1, hy]
  have hlog : m.log2 ≤ 52 := by
    by_cases h0 : m = 0
    · rw [h0]; decide
    · have : m.log2 < 53 := (Nat.log2_lt h0).2 (by rw [two53]; exact h3)
      omega
  have hn : (2 : Nat) ^ 52 ≠ 0 := Nat.ne_of_gt (Nat.two_pow_pos 52)
  simp only [Ieee.Datum.quotient, if_neg hn, Nat.log2_two_pow, Nat.shiftLeft_eq, Option.map_some, Bool.xor_false, Ieee.Format.write]
  obtain ⟨a, ha⟩ : ∃ a, 54 + 52 - m.log2 = a + 52 := ⟨54 - m.log2, by omega⟩
  rw [ha]
  have hdiv : m * 2 ^ (a + 52) / 2 ^ 52 = m * 2 ^ a := by
    rw [Nat.pow_add, ← Nat.mul_assoc, Nat.mul_div_cancel _ (Nat.two_pow_pos 52)]
  have hmod : m * 2 ^ (a + 52) % 2 ^ 52 = 0 := by
    rw [Nat.pow_add, ← Nat.mul_assoc, Nat.mul_mod_left]
  rw [hdiv, hmod, nearest_eq]
  have hz : ((0 : Nat) != 0).toNat = 0 := rfl
  rw [hz, Nat.add_zero]
  refine ⟨_, rfl, nearR_le _ _ _, fun r hr => ?_⟩
  have hb := nearR_both (sgn x) (2 * (m * 2 ^ a)) (-1074 + (i : Int) - ((j : Int) - 52) - ((a + 52 : Nat) : Int) - 1) (j + a + 1) i (by omega) r hr
  have e1 : 2 * (m * 2 ^ a) * 2 ^ i = vmag (rung x) * 2 ^ (a + 1) := by
    rw [← h2, Nat.pow_succ]
    simp only [Nat.mul_assoc, Nat.mul_left_comm, Nat.mul_comm]
  have e2 : vmag r * 2 ^ (j + a + 1) = vmag r * 2 ^ j * 2 ^ (a + 1) := by
    rw [Nat.mul_assoc, ← Nat.pow_add, Nat.add_assoc]
  rw [e1, e2] at hb
  have pa := Nat.two_pow_pos (a + 1)
  exact ⟨fun h => hb.1 (Nat.mul_le_mul_right _ h), fun h => hb.2 (Nat.mul_le_mul_right _ h)⟩
theorem vmag_dbl (r : Nat) (h : 1 ≤ r) : vmag (r + 1) ≤ 2 * vmag r := by
  have hp := bBin_pos
  by_cases h1 : r < bBin
  · have e1 := vmag_rung 0 r (by omega) (.inl rfl)
    have e2 := vmag_rung 0 (r + 1) (by omega) (.inl rfl)
    rw [Nat.zero_mul, Nat.zero_add, Nat.pow_zero, Nat.mul_one] at e1 e2
    omega
  · have hdm := Nat.div_add_mod r bBin
    have hlt := Nat.mod_lt r hp
    have hq : 1 ≤ r / bBin := (Nat.le_div_iff_mul_le hp).2 (by omega)
    obtain ⟨q, hq'⟩ : ∃ q, r / bBin = q + 1 := ⟨r / bBin - 1, by omega⟩
    rw [hq'] at hdm
    have er : r = q * bBin + (bBin + r % bBin) := by
      have : bBin * (q + 1) = q * bBin + bBin := by rw [Nat.mul_comm, Nat.succ_mul]
      omega
    generalize r % bBin = e at *
    have e1 := vmag_rung q (bBin + e) (by omega) (.inr (by omega))
    have e2 := vmag_rung q (bBin + e + 1) (by omega) (.inr (by omega))
    rw [er, Nat.add_assoc, e1, e2, ← Nat.mul_assoc]
    exact Nat.mul_le_mul_right _ (by omega)
theorem vmag_one : vmag 1 = 1 := by
  have e := vmag_rung 0 1 (by have := bBin_pos; omega) (.inl rfl)
  rw [Nat.zero_mul, Nat.zero_add, Nat.pow_zero, Nat.mul_one] at e
  exact e
theorem vmag_floor (d : Nat) : ∃ r, vmag r ≤ d ∧ d < vmag (r + 1) := by
  induction d with
  | zero => exact ⟨0, by rw [vmag_zero]; exact Nat.le_refl _, by rw [vmag_one]; decide⟩
  | succ d ih =>
    obtain ⟨r, h1, h2⟩ := ih
    rcases Nat.lt_or_ge (d + 1) (vmag (r + 1)) with h | h
    · exact ⟨r, by omega, h⟩
    · exact ⟨r + 1, h, by have := vmag_step (r + 1); omega⟩
theorem fval_key {b : Nat} {z : Int} (h : fkey b = some z) (hz : 0 ≤ z) : rung b = z.toNat ∧ fval b = vmag z.toNat := by
  obtain ⟨h1, h2⟩ := fkey_some h
  unfold fval
  cases hs : sgn b with
  | true =>
    rw [hs] at h2
    simp only [sg, if_true] at h2
    have : rung b = 0 := by omega
    have hz0 : z = 0 := by omega
    subst hz0
    rw [this]
    refine ⟨rfl, ?_⟩
    show sg true (vmag 0) = ((vmag 0 : Nat) : Int)
    rw [vmag_zero]; rfl
  | false =>
    rw [hs] at h2
    simp only [sg, Bool.false_eq_true, if_false] at h2
    have : rung b = z.toNat := by omega
    rw [this]
    exact ⟨rfl, rfl⟩
theorem vmag_le {r s : Nat} (h : r ≤ s) : vmag r ≤ vmag s := by
  rcases Nat.lt_or_ge r s with h1 | h1
  · exact Nat.le_of_lt (vmag_lt h1)
  · have : r = s := by omega
    rw [this]; exact Nat.le_refl _
/-- A step of a part of the way stays on the way. -/
theorem toward {t m d c y l j : Nat} {a b : Int} (ha : fkey t = some a) (ha0 : 0 ≤ a) (ha1 : a < bInf) (hb : fkey m = some b) (hb0 : 0 ≤ b) (hb1 : b < bInf) (hj : 1 ≤ j)
    (hl : Ieee.double.read l = .number false (2 ^ 52) ((j : Int) - 52)) (hd : Ans (FloatKind.f64.format.sub t m) d) (hc : Ans (FloatKind.f64.format.div d l) c) (hy : Ans (FloatKind.f64.format.add m c) y) :
    ∃ z, fkey y = some z ∧ min a b ≤ z ∧ z ≤ max a b ∧ ∃ e, fkey d = some e ∧ (e.natAbs : Int) ≤ max a b := by
  obtain ⟨ra, va⟩ := fval_key ha ha0
  obtain ⟨rb, vb⟩ := fval_key hb hb0
  generalize hA : a.toNat = A at *
  generalize hB : b.toNat = B at *
  have hAI : A < bInf := by omega
  have hBI : B < bInf := by omega
  obtain ⟨nd, D, hd1, hd2, hd3⟩ := sub_res (x := t) (y := m) (by rw [ra]; exact hAI) (by rw [rb]; exact hBI)
  rw [va, vb] at hd2 hd3
  have ed : d = Ieee.double.word nd D := by
    rcases hd with h | ⟨h, _⟩
    · rw [hd1] at h; injection h with h; exact h.symm
    · rw [hd1] at h; cases h
  -- the difference is no greater than the greater of the two
  have hD1 : D ≤ max A B := by
    refine (hd3.2 (max A B) (by omega)).2 ?_
    rcases Nat.le_total A B with h | h
    · have := vmag_le h; rw [Nat.max_eq_right h]; omega
    · have := vmag_le h; rw [Nat.max_eq_left h]; omega
  have hDI : D < bInf := by omega
  obtain ⟨rd, sd⟩ := word_rung nd D (by omega)
  rw [← ed] at rd sd
  obtain ⟨C, hc1, hc2, hc3⟩ := div_res (x := d) (y := l) (j := j) (by rw [rd]; exact hDI) hl
  rw [sd, rd] at *
  have ec : c = Ieee.double.word nd C := by
    rcases hc with h | ⟨h, _⟩
    · rw [hc1] at h; injection h with h; exact h.symm
    · rw [hc1] at h; cases h
  -- the part is no greater than the way
  obtain ⟨f, hf1, hf2⟩ := vmag_floor ((vmag A : Int) - (vmag B : Int)).natAbs
  have hfm : f ≤ max A B := by
    rcases Nat.lt_or_ge (max A B) f with h | h
    · have h1 := vmag_lt h
      have h2 := vmag_le (Nat.le_max_left A B)
      have h3 := vmag_le (Nat.le_max_right A B)
      omega
    · exact h
  have hDf : D ≤ f + 1 := (hd3.2 (f + 1) (by omega)).2 (Nat.le_of_lt hf2)
  have hCf : C ≤ f := by
    refine (hc3 f (by omega)).2 ?_
    have p2 : 2 ≤ 2 ^ j := by
      have := Nat.pow_le_pow_right (n := 2) (by decide) hj
      simpa using this
    rcases Nat.eq_zero_or_pos f with h0 | h0
    · subst h0
      have hz : ((vmag A : Int) - (vmag B : Int)).natAbs = 0 := by rw [vmag_one] at hf2; omega
      have : D ≤ 0 := (hd3.2 0 (Nat.zero_le _)).2 (by rw [hz]; exact Nat.zero_le _)
      have : D = 0 := by omega
      rw [this, vmag_zero]; exact Nat.zero_le _
    · have h1 := vmag_dbl f h0
      have h2 := vmag_le hDf
      have h3 : vmag f * 2 ≤ vmag f * 2 ^ j := Nat.mul_le_mul_left _ p2
      omega
  have hCv : vmag C ≤ ((vmag A : Int) - (vmag B : Int)).natAbs := Nat.le_trans (vmag_le hCf) hf1
  have hCI : C < bInf := by omega
  obtain ⟨rc, sc⟩ := word_rung nd C (by omega)
  rw [← ec] at rc sc
  obtain ⟨ny, Y, hy1, hy2, hy3⟩ := add_res (x := m) (y := c) (by rw [rb]; exact hBI) (by rw [rc]; exact hCI)
  have ey : y = Ieee.double.word ny Y := by
    rcases hy with h | ⟨h, _⟩
    · rw [hy1] at h; injection h with h; exact h.symm
    · rw [hy1] at h; cases h
  have vc : fval c = sg nd (vmag C) := by unfold fval; rw [rc, sc]
  rw [vb, vc] at hy2 hy3
  -- the sum lies on the way
  have hS : ((vmag (min A B) : Nat) : Int) ≤ (vmag B : Int) + sg nd (vmag C) ∧ (vmag B : Int) + sg nd (vmag C) ≤ ((vmag (max A B) : Nat) : Int) := by
    rcases Nat.lt_trichotomy A B with h | h | h
    · rw [Nat.min_eq_left (Nat.le_of_lt h), Nat.max_eq_right (Nat.le_of_lt h)]
      have hv := vmag_lt h
      have hne : (vmag A : Int) - (vmag B : Int) ≠ 0 := by omega
      have hs := hd2 hne
      rw [decide_eq_true (show (vmag A : Int) - (vmag B : Int) < 0 by omega)] at hs
      subst hs
      simp only [sg, if_true]
      omega
    · subst h
      have h0 : vmag C = 0 := by omega
      rw [h0, Nat.min_self, Nat.max_self]
      have : sg nd 0 = 0 := by cases nd <;> rfl
      rw [this]
      omega
    · rw [Nat.min_eq_right (Nat.le_of_lt h), Nat.max_eq_left (Nat.le_of_lt h)]
      have hv := vmag_lt h
      have hne : (vmag A : Int) - (vmag B : Int) ≠ 0 := by omega
      have hs := hd2 hne
      rw [decide_eq_false (show ¬ (vmag A : Int) - (vmag B : Int) < 0 by omega)] at hs
      subst hs
      simp only [sg, Bool.false_eq_true, if_false]
      omega
  generalize hT : (vmag B : Int) + sg nd (vmag C) = T at *
  have hlo : min A B ≤ Y := (hy3.2 (min A B) (by omega)).1 (by omega)
  have hhi : Y ≤ max A B := (hy3.2 (max A B) (by omega)).2 (by omega)
  have hkey : fkey y = some (Y : Int) := by
    rw [ey, word_key _ _ hy3.1]
    by_cases hT0 : T = 0
    · have : Y ≤ 0 := (hy3.2 0 (Nat.zero_le _)).2 (by rw [hT0, vmag_zero]; exact Nat.le_refl _)
      have hY : Y = 0 := by omega
      subst hY
      cases ny <;> rfl
    · have hs := hy2 hT0
      rw [decide_eq_false (show ¬ T < 0 by omega)] at hs
      subst hs
      rfl
  refine ⟨Y, hkey, by omega, by omega, sg nd D, ?_, ?_⟩
  · rw [ed, word_key _ _ (by omega)]
  · rw [sg_abs]; omega
end Go.Eng
