import Derived.Test.YtmnimmhpclhmfaaPV
import Derived.Test.YtmnimmhpclhmfaaPM
import Derived.Test.YtmnimmhpclhmfaaEngL
namespace Go.Proofs.Ytmnimmhpclhmfaa.PC
open Go.Eng
set_option maxRecDepth 100000
/-! ### Doubling, plainly. -/
/-- A power of two times a float. -/
theorem mul_resl {x y s t : Nat} (hx : rung x < bInf) (hy : Ieee.double.read y = .number false (2 ^ 52) ((t : Int) - s - 52)) : ∃ R, FloatKind.f64.format.mul y x = some (Ieee.double.word (sgn x) R) ∧ R ≤ bInf ∧
    ∀ r, r ≤ bInf → (vmag r * 2 ^ s ≤ vmag (rung x) * 2 ^ t → r ≤ R) ∧ (vmag (rung x) * 2 ^ t ≤ vmag r * 2 ^ s → R ≤ r) := by
  obtain ⟨m, i, h1, h2⟩ := read_fin x hx
  show ∃ R, ((Ieee.double.read y).product (Ieee.double.read x)).map Ieee.double.write = _ ∧ _
  rw [h1, hy]
  simp only [Ieee.Datum.product, Option.map_some, Bool.false_xor, Ieee.Format.write]
  rw [nearest_eq]
  refine ⟨_, rfl, nearR_le _ _ _, fun r hr => ?_⟩
  have hb := nearR_both (sgn x) (2 ^ 52 * m) ((t : Int) - s - 52 + (-1074 + (i : Int))) (s + 52) (i + t) (by omega) r hr
  have e1 : 2 ^ 52 * m * 2 ^ (i + t) = vmag (rung x) * 2 ^ t * 2 ^ 52 := by
    rw [← h2, Nat.pow_add]
    simp only [Nat.mul_assoc, Nat.mul_left_comm, Nat.mul_comm]
  have e2 : vmag r * 2 ^ (s + 52) = vmag r * 2 ^ s * 2 ^ 52 := by
    rw [Nat.pow_add, Nat.mul_assoc]
  rw [e1, e2] at hb
  have pa := Nat.two_pow_pos 52
  exact ⟨fun h => hb.1 (Nat.mul_le_mul_right _ h), fun h => hb.2 (Nat.mul_le_mul_right _ h)⟩
theorem mul_comm64 (x y : Nat) (m n : Nat) (i j : Int) (s t : Bool) (hx : Ieee.double.read x = .number s m i) (hy : Ieee.double.read y = .number t n j) : FloatKind.f64.format.mul x y = FloatKind.f64.format.mul y x := by
  show ((Ieee.double.read x).product (Ieee.double.read y)).map Ieee.double.write = ((Ieee.double.read y).product (Ieee.double.read x)).map Ieee.double.write
  rw [hx, hy]
  simp only [Ieee.Datum.product]
  rw [Bool.xor_comm s t, Nat.mul_comm m n, Int.add_comm i j]
/-- Twice a rung. -/
def dbl1 (c : Nat) : Nat := if c < bBin then 2 * c else min (c + bBin) bInf
def ldxR (b : Nat) : Nat → Nat
  | 0 => b
  | k + 1 => dbl1 (ldxR b k)
@[irreducible] def ldx (b k : Nat) : Nat := ldxR b k
theorem ldx_0 (b : Nat) : ldx b 0 = b := by unfold ldx; rfl
theorem ldx_s (b k : Nat) : ldx b (k + 1) = dbl1 (ldx b k) := by unfold ldx; rfl
theorem vmag_2 {c : Nat} (h : bBin ≤ c) : vmag (c + bBin) = 2 * vmag c := by
  obtain ⟨q, d, hd1, hd2, rfl⟩ : ∃ q d, bBin ≤ d ∧ d < 2 * bBin ∧ c = q * bBin + d := by
    have hp := bBin_pos
    refine ⟨c / bBin - 1, c % bBin + bBin, by omega, by have := Nat.mod_lt c hp; omega, ?_⟩
    have h1 : 1 ≤ c / bBin := (Nat.le_div_iff_mul_le hp).2 (by omega)
    have h2 := Nat.div_add_mod c bBin
    obtain ⟨u, hu⟩ : ∃ u, c / bBin = u + 1 := ⟨c / bBin - 1, by omega⟩
    rw [hu] at h2 ⊢
    rw [Nat.mul_comm, Nat.add_mul] at h2
    rw [Nat.add_sub_cancel]
    omega
  have e : q * bBin + d + bBin = (q + 1) * bBin + d := by rw [Nat.add_mul]; omega
  rw [e, vmag_rung _ _ (by omega) (.inr hd1), vmag_rung _ _ (by omega) (.inr hd1), Nat.pow_succ]
  simp only [Nat.mul_left_comm, Nat.mul_comm]
theorem dbl1_mul {c : Nat} (_ : c < bInf) : (dbl1 c < bInf ∧ vmag (dbl1 c) = vmag c * 2) ∨ (dbl1 c = bInf ∧ vmag bInf ≤ vmag c * 2) := by
  unfold dbl1
  by_cases h1 : c < bBin
  · rw [if_pos h1]
    have hb : 2 * bBin < bInf := by decide
    left
    refine ⟨by omega, ?_⟩
    have e := vmag_rung 0 (2 * c) (by omega) (.inl rfl)
    have e2 := vmag_rung 0 c (by omega) (.inl rfl)
    rw [Nat.zero_mul, Nat.zero_add, Nat.pow_zero, Nat.mul_one] at e e2
    rw [e, e2]; omega
  · rw [if_neg h1]
    have e := vmag_2 (c := c) (by omega)
    by_cases h2 : c + bBin < bInf
    · left
      rw [Nat.min_eq_left (by omega)]
      exact ⟨h2, by omega⟩
    · right
      rw [Nat.min_eq_right (by omega)]
      refine ⟨rfl, ?_⟩
      have := vmag_le (r := bInf) (s := c + bBin) (by omega)
      omega
theorem dbl1_inf : dbl1 bInf = bInf := by decide
theorem dbl1_le {c : Nat} (h : c ≤ bInf) : c ≤ dbl1 c ∧ dbl1 c ≤ bInf := by
  unfold dbl1
  have hb : 2 * bBin < bInf := by decide
  split <;> omega
theorem ldx_le {b : Nat} (h : b ≤ bInf) : ∀ k, ldx b k ≤ bInf
  | 0 => by rw [ldx_0]; exact h
  | k + 1 => by rw [ldx_s]; exact (dbl1_le (ldx_le h k)).2
theorem ldx_mono {b : Nat} (h : b ≤ bInf) (k : Nat) : ldx b k ≤ ldx b (k + 1) := by
  rw [ldx_s]; exact (dbl1_le (ldx_le h k)).1
theorem ldx_inf : ∀ k, ldx bInf k = bInf
  | 0 => ldx_0 _
  | k + 1 => by rw [ldx_s, ldx_inf k, dbl1_inf]
theorem ldx_zero : ∀ k, ldx 0 k = 0
  | 0 => ldx_0 _
  | k + 1 => by rw [ldx_s, ldx_zero k]; decide
theorem ldx_mul {b : Nat} (h : b < bInf) : ∀ k, (ldx b k < bInf ∧ vmag (ldx b k) = vmag b * 2 ^ k) ∨ (ldx b k = bInf ∧ vmag bInf ≤ vmag b * 2 ^ k)
  | 0 => by rw [ldx_0, Nat.pow_zero, Nat.mul_one]; exact .inl ⟨h, rfl⟩
  | k + 1 => by
    rw [ldx_s, Nat.pow_succ, ← Nat.mul_assoc]
    rcases ldx_mul h k with ⟨h1, h2⟩ | ⟨h1, h2⟩
    · rw [← h2]; exact dbl1_mul h1
    · rw [h1, dbl1_inf]; exact .inr ⟨rfl, by omega⟩
/-- What is nearest to the exact product is it. -/
theorem ldx_eq {b k R : Nat} (h : b < bInf) (hR : R ≤ bInf) (hb : ∀ r, r ≤ bInf → (vmag r ≤ vmag b * 2 ^ k → r ≤ R) ∧ (vmag b * 2 ^ k ≤ vmag r → R ≤ r)) : R = ldx b k := by
  rcases ldx_mul h k with ⟨h1, h2⟩ | ⟨h1, h2⟩
  · have a := hb (ldx b k) (by omega)
    rw [← h2] at a
    have a1 := a.1 (Nat.le_refl _)
    have a2 := a.2 (Nat.le_refl _)
    omega
  · have a := (hb bInf (Nat.le_refl _)).1 h2
    omega
theorem ldx_of {b k R : Nat} (h : b < bInf) (hR : R < bInf) (e : vmag R = vmag b * 2 ^ k) : R = ldx b k := by
  rcases ldx_mul h k with ⟨h1, h2⟩ | ⟨h1, h2⟩
  · rw [← h2] at e
    exact (vmag_eq_iff _ _).1 e
  · rw [← e] at h2
    have := vmag_lt hR
    omega
theorem word_pos (R : Nat) : Ieee.double.word false R = R := by
  unfold Ieee.Format.word
  simp
theorem sgn_pos {b : Nat} (h : b ≤ bInf) : sgn b = false ∧ rung b = b := by
  have hs : b < bSign := by have := bInf_lt; omega
  exact ⟨by unfold sgn; rw [Nat.div_eq_of_lt hs]; rfl, Nat.mod_eq_of_lt hs⟩
theorem fkey_nn {b : Nat} (h : b ≤ bInf) : fkey b = some (b : Int) := by
  obtain ⟨h1, h2⟩ := sgn_pos h
  rw [fkey_pos (by omega) h1, h2]
/-- A power of two times a float from nought on. -/
theorem mul_pow {b y k r : Nat} (hb : b < bInf) (hy : Ieee.double.read y = .number false (2 ^ 52) ((k : Int) - (0 : Nat) - 52)) (h : Ans (FloatKind.f64.format.mul y b) r) : r = ldx b k := by
  obtain ⟨h1, h2⟩ := sgn_pos (Nat.le_of_lt hb)
  obtain ⟨R, e1, e2, e3⟩ := mul_resl (x := b) (s := 0) (by omega) hy
  rw [h1, word_pos] at e1
  rw [ans_lit h e1]
  refine ldx_eq hb e2 fun r hr => ?_
  have := e3 r hr
  rw [h2, Nat.pow_zero, Nat.mul_one] at this
  exact this
theorem read_1 : Ieee.double.read 4607182418800017408 = .number false (2 ^ 52) (((0 : Nat) : Int) - (0 : Nat) - 52) := by decide
theorem read_2' : Ieee.double.read 4611686018427387904 = .number false (2 ^ 52) (((1 : Nat) : Int) - (0 : Nat) - 52) := by decide
theorem read_4' : Ieee.double.read 4616189618054758400 = .number false (2 ^ 52) (((2 : Nat) : Int) - (0 : Nat) - 52) := by decide
theorem read_52 : Ieee.double.read 4841369599423283200 = .number false (2 ^ 52) (((52 : Nat) : Int) - (0 : Nat) - 52) := by decide
theorem read_m53 : Ieee.double.read 4368491638549381120 = .number false (2 ^ 52) (((0 : Nat) : Int) - (53 : Nat) - 52) := by decide
theorem read_inf' : Ieee.double.read 9218868437227405312 = .infinity false := by decide
/-- Twice infinity. -/
theorem mul_inf {y r : Nat} {j : Int} (hy : Ieee.double.read y = .number false (2 ^ 52) j) (h : Ans (FloatKind.f64.format.mul y bInf) r) : r = bInf := by
  refine ans_lit h ?_
  show ((Ieee.double.read y).product (Ieee.double.read 9218868437227405312)).map Ieee.double.write = some 9218868437227405312
  rw [hy, read_inf']
  have : (2 : Nat) ^ 52 ≠ 0 := by decide
  simp only [Ieee.Datum.product, if_neg this]
  decide
theorem mul_dbl {c r : Nat} (hc : c ≤ bInf) (h : Ans (FloatKind.f64.format.mul 4611686018427387904 c) r) : r = dbl1 c := by
  rcases Nat.lt_or_ge c bInf with h1 | h1
  · rw [mul_pow h1 read_2' h, ldx_s, ldx_0]
  · obtain rfl : c = bInf := by omega
    rw [mul_inf read_2' h, dbl1_inf]
/-! ### The whole ticks rise. -/
theorem ticks_lt {c : Nat} (hc : c ≤ bInf) : (1 ≤ ticks c ∧ ticks c ≤ 1000) ∧ ∀ m, 1 ≤ m → m < 1000 → (m < ticks c ↔ m * U < vmag c) := by
  have hk := fkey_nn hc
  have hn : ∀ m, m < 1001 → fLtK .f64 (nearN m) c = decide (m * U < vmag c) := fun m hm => near_lt hm hk (by omega)
  have hU := U_pos
  cases h : (isNan c || (fLtK .f64 c (nearN 1) || fEqK .f64 c (nearN 1))) with
  | true =>
    rw [ticks_one h]
    refine ⟨by omega, fun m h1 h2 => ?_⟩
    have hx : ¬ (1 * U < vmag c) := by
      have hz : fLtK .f64 (nearN 1) c = false := by
        rw [fkey_nan, hk] at h
        rw [fLt_key, fEq_key, hk, fkey_near (by decide)] at h
        rw [fLt_key, hk, fkey_near (by decide)]
        simp only [Option.isNone_some, Bool.false_or, ← Bool.decide_or] at h
        have := of_decide_eq_true h
        exact decide_eq_false (by omega)
      rw [hn 1 (by decide)] at hz
      exact of_decide_eq_false hz
    have := Nat.mul_le_mul_right U h1
    omega
  | false =>
    cases ht : fGtK .f64 c (nearN 1000) with
    | true =>
      rw [ticks_top h ht]
      refine ⟨by omega, fun m h1 h2 => ?_⟩
      rw [fGt_lt, hn 1000 (by decide)] at ht
      have := of_decide_eq_true ht
      have := Nat.mul_le_mul_right U (show m ≤ 1000 by omega)
      omega
    | false =>
      obtain ⟨_, e1, e2, e3⟩ := ticks_mid h ht
      refine ⟨by omega, fun m h1 h2 => ?_⟩
      have := e1 m (by omega)
      rw [hn m (by omega), decide_eq_decide] at this
      exact this.symm
theorem ticks_mono {a b : Nat} (h : a ≤ b) (hb : b ≤ bInf) : ticks a ≤ ticks b := by
  obtain ⟨⟨a1, a2⟩, a3⟩ := ticks_lt (Nat.le_trans h hb)
  obtain ⟨⟨b1, b2⟩, b3⟩ := ticks_lt hb
  rcases Nat.lt_or_ge (ticks b) (ticks a) with h1 | h1
  · have h2 := (a3 (ticks b) b1 (by omega)).1 h1
    have h3 := vmag_le h
    have h4 := (b3 (ticks b) b1 (by omega)).2 (by omega)
    omega
  · exact h1
theorem ticks_m0 : ticks 9223372036854775808 = 1 := ticks_one (by unfold isNan fLtK fEqK nearN; decide +kernel)
theorem ticks_0 : ticks 0 = 1 := ticks_one (by unfold isNan fLtK fEqK nearN; decide +kernel)
/-! ### What is waited. -/
theorem add_nan_r {a b : Nat} (h : isNan b = true) : FloatKind.f64.format.add a b = none := by
  obtain ⟨s, t, e⟩ := read_isNan h
  show ((Ieee.double.read a).sum (Ieee.double.read b)).map Ieee.double.write = none
  rw [e]; cases Ieee.double.read a <;> rfl
theorem at_form {b : Nat} {z : Int} (h : fkey b = some z) (h0 : 0 ≤ z) (hb : b < 18446744073709551616) : (b ≤ bInf ∧ z = b) ∨ (b = 9223372036854775808 ∧ z = 0) := by
  obtain ⟨h1, h2⟩ := fkey_some h
  cases hs : sgn b with
  | false =>
    rw [hs] at h2
    simp only [sg, Bool.false_eq_true, if_false] at h2
    have e : rung b = b := by
      unfold sgn at hs
      unfold rung bSign at *
      have : b / 9223372036854775808 = 0 := by
        have : b / 9223372036854775808 < 2 := by omega
        have h3 : b / 9223372036854775808 = 0 ∨ b / 9223372036854775808 = 1 := by omega
        rcases h3 with h3 | h3
        · exact h3
        · rw [h3] at hs; cases hs
      omega
    exact .inl ⟨by omega, by omega⟩
  | true =>
    rw [hs] at h2
    simp only [sg, if_true] at h2
    right
    have e : rung b = 0 := by omega
    unfold sgn at hs
    unfold rung bSign at *
    have h3 : b / 9223372036854775808 = 0 ∨ b / 9223372036854775808 = 1 := by omega
    rcases h3 with h3 | h3
    · rw [h3] at hs; cases hs
    · exact ⟨by omega, by omega⟩
/-- What is waited for a partner, ahead of the doublings. -/
@[irreducible] def wb (x : Pt) : Nat := if x.heard then ((FloatKind.f64.format.mul 4616189618054758400 x.stray).bind fun m => FloatKind.f64.format.add x.mean m).getD 0 else 4620693217682128896
/-- How long to wait for a partner. -/
@[irreducible] def wt (x : Pt) (k : Nat) : Nat := ticks (ldx (rung (wb x)) k)
def Good (x : Pt) : Prop := ∃ lo hi, MR x lo hi
theorem add_lt64 {x y r : Nat} (h : FloatKind.f64.format.add x y = some r) : r < 18446744073709551616 := FloatKind.f64.format.add_lt h
theorem wbase_wb {x : Pt} {b : Nat} (hg : Good x) (h : WBase x b) : b = wb x ∧ b < 18446744073709551616 ∧ ∃ z, fkey b = some z ∧ 0 ≤ z := by
  obtain ⟨lo, hi, hg⟩ := hg
  unfold wb
  rcases h with ⟨h1, h2⟩ | ⟨h1, m, h2, h3⟩
  · rw [if_neg (by rw [h1]; decide), h2]
    exact ⟨rfl, by decide, 4620693217682128896, by decide, by decide⟩
  · rw [if_pos h1]
    cases hg with
    | new h _ _ => rw [h] at h1; cases h1
    | old h l M u s hl hm hu hs _ _ =>
      obtain ⟨s1, s2, s3⟩ := hs
      obtain ⟨m1, m2, m3⟩ := hm
      obtain ⟨rs, vs⟩ := fval_key s1 s2
      obtain ⟨rm, vm⟩ := fval_key m1 m2
      obtain ⟨R, e1, e2, e3⟩ := mul_resl (x := x.stray) (s := 0) (by omega) read_4'
      have em := ans_lit h2 e1
      obtain ⟨w1, w2⟩ := word_rung (sgn x.stray) R e2
      rw [← em] at w1 w2
      have km : fkey m = some (R : Int) := by
        cases hsg : sgn x.stray with
        | false => rw [fkey_pos (by omega) (by rw [w2]; exact hsg), w1]
        | true =>
          have : rung x.stray = 0 := by
            obtain ⟨_, q⟩ := fkey_some s1
            rw [hsg] at q
            simp only [sg, if_true] at q
            omega
          have hR : R = 0 := by
            have := (e3 0 (by decide)).2 (by rw [this, vmag_zero]; decide)
            omega
          unfold fkey
          rw [w1, w2, hsg, hR]
          rfl
      rcases Nat.lt_or_ge R bInf with hR | hR
      · obtain ⟨neg, Q, f1, f2, f3⟩ := add_res (x := x.mean) (y := m) (by omega) (by omega)
        have eb := ans_lit h3 f1
        refine ⟨?_, ?_, Q, ?_, by omega⟩
        · rw [e1, Option.bind_some, ← em, f1, Option.getD_some]; exact eb
        · rw [eb]; exact add_lt64 f1
        · rw [eb, word_key _ _ f3.1]
          have fm : fval m = vmag R := by
            have := (fval_key km (by omega)).2
            rw [this, Int.toNat_natCast]
          by_cases h0 : fval x.mean + fval m = 0
          · have : Q = 0 := by
              have := (f3.2 0 (by decide)).2 (by rw [h0]; exact Nat.zero_le _)
              omega
            subst this
            cases neg <;> rfl
          · have := f2 h0
            rw [vm, fm] at this
            rw [this, decide_eq_false (by omega)]
            rfl
      · obtain rfl : R = bInf := by omega
        have sg0 : sgn x.stray = false := by
          cases hsg : sgn x.stray with
          | false => rfl
          | true =>
            obtain ⟨_, q⟩ := fkey_some s1
            rw [hsg] at q
            simp only [sg, if_true] at q
            have h0 : rung x.stray = 0 := by omega
            have := (e3 0 (by decide)).2 (by rw [h0, vmag_zero]; decide)
            have : (0 : Nat) < bInf := by decide
            omega
        rw [sg0, word_pos] at em
        have f1 : FloatKind.f64.format.add x.mean m = some bInf := by
          obtain ⟨mm, i, q1, _⟩ := read_fin x.mean (by omega)
          show ((Ieee.double.read x.mean).sum (Ieee.double.read m)).map Ieee.double.write = _
          rw [q1, em, show bInf = 9218868437227405312 from rfl, read_inf']
          rfl
        have eb := ans_lit h3 f1
        refine ⟨?_, by rw [eb]; decide, bInf, by rw [eb]; decide, by omega⟩
        rw [e1, sg0, word_pos, Option.bind_some, ← em, f1, Option.getD_some]; exact eb
theorem wb_le {x : Pt} (hg : Good x) (h : ∃ b, WBase x b) : rung (wb x) ≤ bInf := by
  obtain ⟨b, h⟩ := h
  obtain ⟨e, _, z, h1, _⟩ := wbase_wb hg h
  rw [← e]
  exact (fkey_some h1).1
/-! ### Hearing is one thing. -/
theorem ans_same {o : Option Nat} {r r' : Nat} (h : Ans o r) (h' : Ans o r') (hn : isNan r = false) : r = r' := by
  rcases h with h | ⟨_, n, _⟩
  · exact (ans_lit h' h).symm
  · rw [n] at hn; cases hn
theorem at_nan {b : Nat} {z : Int} (h : fkey b = some z) : isNan b = false := by rw [fkey_nan, h]; rfl
theorem add_nan {x b y : Nat} (h : Ans (FloatKind.f64.format.add x b) y) (hy : isNan y = false) : isNan b = false := by
  cases hb : isNan b with
  | false => rfl
  | true =>
    rw [add_nan_r hb] at h
    rcases h with h | ⟨_, n, _⟩
    · cases h
    · rw [n] at hy; cases hy
theorem heard_det {x y y' : Pt} {lo hi t : Nat} {a : Int} (hM : MR x lo hi) (ht : At t a) (hy : HeardR x t y) (hy' : HeardR x t y') : y = y' := by
  obtain ⟨_, m, _, s, hm, hs, _⟩ := heard_at hM ht hy
  have nm := at_nan hm.1
  have ns := at_nan hs.1
  obtain ⟨a1, a2, a3, a4, a5, a6, a7⟩ := hy
  obtain ⟨b1, b2, b3, b4, b5, b6, b7⟩ := hy'
  have key : y.mean = y'.mean ∧ y.stray = y'.stray := by
    cases hM with
    | new h l u =>
      obtain ⟨e1, e2⟩ := a6 h
      obtain ⟨f1, f2⟩ := b6 h
      exact ⟨e1.trans f1.symm, ans_same e2 f2 ns⟩
    | old h l m u s hl hm hu hs h1 h2 =>
      obtain ⟨d, a', b, c, hd, ha, hb, hst, hc, hmn⟩ := a7 h
      obtain ⟨d', a'', b', c', hd', ha', hb', hst', hc', hmn'⟩ := b7 h
      obtain ⟨z, z1, z2, z3, e, e1, e2⟩ := toward ht.1 ht.2.1 ht.2.2 hm.1 hm.2.1 hm.2.2 (by decide) read_8 hd hc hmn
      have hea := abs_at e1
      have ha2 := ht.2.2
      have hm2 := hm.2.2
      obtain ⟨z', y1, y2, y3, e', e1', _⟩ := toward hea (by omega) (by omega) hs.1 hs.2.1 hs.2.2 (by decide) read_4 ha hb hst
      obtain rfl := ans_same hd hd' (at_nan e1)
      obtain rfl := ans_same ha ha' (at_nan e1')
      obtain rfl := ans_same hb hb' (add_nan hst ns)
      obtain rfl := ans_same hc hc' (add_nan hmn nm)
      exact ⟨ans_same hmn hmn' nm, ans_same hst hst' ns⟩
  obtain ⟨k1, k2⟩ := key
  obtain ⟨h, en, mm, st, db, w, sh⟩ := y
  obtain ⟨h', en', mm', st', db', w', sh'⟩ := y'
  simp only at *
  subst k1 k2 a1 a2 a3 a4 a5 b1 b2 b3 b4 b5
  rfl
theorem heard_good {x y : Pt} {t : Nat} {a : Int} (hg : Good x) (ht : At t a) (hy : HeardR x t y) : Good y := by
  obtain ⟨lo, hi, hM⟩ := hg
  obtain ⟨l, u, kl, ku⟩ := hM.keys
  obtain ⟨lo', hlo⟩ : ∃ b, fkey b = some (min l a) := by
    rcases Int.le_total l a with h | h
    · exact ⟨lo, by rw [Int.min_eq_left h]; exact kl⟩
    · exact ⟨t, by rw [Int.min_eq_right h]; exact ht.1⟩
  obtain ⟨hi', hhi⟩ : ∃ b, fkey b = some (max u a) := by
    rcases Int.le_total u a with h | h
    · exact ⟨t, by rw [Int.max_eq_right h]; exact ht.1⟩
    · exact ⟨hi, by rw [Int.max_eq_left h]; exact ku⟩
  exact ⟨lo', hi', (asked hM ht hy kl ku hlo hhi).1⟩
end Go.Proofs.Ytmnimmhpclhmfaa.PC
