import Derived.Test.YtmnimmhpclhmfaaPV
import Derived.Test.YtmnimmhpclhmfaaEngI
import Derived.Test.YtmnimmhpclhmfaaEngL
namespace Go.Proofs.Ytmnimmhpclhmfaa.PC
open Go.Eng
set_option maxRecDepth 100000
/-! ### Within what was heard. -/
/-- A float at a place from nought on. -/
def At (b : Nat) (z : Int) : Prop := fkey b = some z ∧ 0 ≤ z ∧ z < bInf
/-- What is known of a partner, and the least and the greatest trip. -/
inductive MR (x : Pt) (lo hi : Nat) : Prop where
  | new (h : x.heard = false) (l : fkey lo = some (bInf : Int)) (u : fkey hi = some (-(bInf : Int)))
  | old (h : x.heard = true) (l m u s : Int) (hl : At lo l) (hm : At x.mean m) (hu : At hi u) (hs : At x.stray s) (h1 : l ≤ m) (h2 : m ≤ u)
theorem fLt_at {x y : Nat} {a b : Int} (h : fkey x = some a) (h' : fkey y = some b) : fLtK .f64 x y = decide (a < b) := by rw [fLt_key, h, h']
theorem fEq_at {x y : Nat} {a b : Int} (h : fkey x = some a) (h' : fkey y = some b) : fEqK .f64 x y = decide (a = b) := by rw [fEq_key, h, h']
theorem key_zero : fkey 0 = some 0 := by decide
theorem key_max : fkey 9218868437227405311 = some ((bInf : Int) - 1) := by decide
/-- What is taken. -/
def took (t : Nat) : Bool := fin t && !fLtK .f64 t 0
theorem took_at {t : Nat} (h : took t = true) : ∃ a, At t a := by
  unfold took at h
  obtain ⟨h1, h2⟩ := Bool.and_eq_true_iff.1 h
  unfold fin at h1
  have hr := of_decide_eq_true h1
  have hk : fkey t = some (sg (sgn t) (rung t)) := by unfold fkey; rw [if_pos (by omega)]; rfl
  rw [fLt_at hk key_zero] at h2
  have h3 : ¬ (sg (sgn t) (rung t) < 0) := by
    intro hc; rw [decide_eq_true hc] at h2; cases h2
  refine ⟨_, hk, by omega, ?_⟩
  unfold sg
  split <;> omega
theorem took_eq (t : Nat) : ((fGtK .f64 t 0 || fEqK .f64 t 0) && (fLtK .f64 t 9218868437227405311 || fEqK .f64 t 9218868437227405311)) = took t := by
  cases h : took t with
  | true =>
    obtain ⟨a, h1, h2, h3⟩ := took_at h
    rw [fGt_lt, fLt_at key_zero h1, fEq_at h1 key_zero, fLt_at h1 key_max, fEq_at h1 key_max, ← Bool.decide_or, ← Bool.decide_or, ← Bool.decide_and]
    exact decide_eq_true (by omega)
  | false =>
    rw [Bool.eq_false_iff]
    intro hc
    cases hk : fkey t with
    | none =>
      rw [fGt_lt, fLt_key, fEq_key, hk, key_zero] at hc
      cases hc
    | some z =>
      rw [fGt_lt, fLt_at key_zero hk, fEq_at hk key_zero, fLt_at hk key_max, fEq_at hk key_max, ← Bool.decide_or, ← Bool.decide_or, ← Bool.decide_and] at hc
      have hc := of_decide_eq_true hc
      have : took t = true := by
        unfold took fin
        obtain ⟨h1, h2⟩ := fkey_some hk
        rw [fLt_at hk key_zero, decide_eq_false (show ¬ z < 0 by omega), Bool.and_eq_true_iff]
        refine ⟨decide_eq_true ?_, rfl⟩
        cases hs : sgn t with
        | true => rw [hs] at h2; simp only [sg, if_true] at h2; have : (0 : Nat) < bInf := by decide
                  omega
        | false => rw [hs] at h2; simp only [sg, Bool.false_eq_true, if_false] at h2; omega
      rw [this] at h; cases h
theorem read_2 : Ieee.double.read 4611686018427387904 = .number false (2 ^ 52) (((1 : Nat) : Int) - 52) := by decide
theorem read_4 : Ieee.double.read 4616189618054758400 = .number false (2 ^ 52) (((2 : Nat) : Int) - 52) := by decide
theorem read_8 : Ieee.double.read 4620693217682128896 = .number false (2 ^ 52) (((3 : Nat) : Int) - 52) := by decide
/-- A half lies between nought and the whole. -/
theorem half_at {t s : Nat} {a : Int} (h : At t a) (hs : Ans (FloatKind.f64.format.div t 4611686018427387904) s) : ∃ b, At s b := by
  obtain ⟨h1, h2, h3⟩ := h
  obtain ⟨e1, e2⟩ := fval_key h1 h2
  obtain ⟨R, r1, r2, r3⟩ := div_res (x := t) (y := 4611686018427387904) (j := 1) (by rw [e1]; omega) read_2
  have es : s = Ieee.double.word (sgn t) R := by
    rcases hs with h | ⟨h, _⟩
    · rw [r1] at h; injection h with h; exact h.symm
    · rw [r1] at h; cases h
  have hR : R ≤ a.toNat := (r3 a.toNat (by omega)).2 (by rw [e1]; exact Nat.le_mul_of_pos_right _ (by decide))
  obtain ⟨k1, k2⟩ := fkey_some h1
  refine ⟨R, ?_, by omega, by omega⟩
  rw [es, word_key _ _ r2]
  cases hsg : sgn t with
  | false => rfl
  | true =>
    rw [hsg] at k2
    simp only [sg, if_true] at k2
    have : R = 0 := by omega
    subst this; rfl
theorem abs_at {d : Nat} {e : Int} (h : fkey d = some e) : fkey (absF d) = some (e.natAbs : Int) := by
  obtain ⟨h1, h2⟩ := fkey_some h
  rw [fkey_abs, if_pos h1, h2, sg_abs]
/-- One trip more. -/
theorem heard_at {x y : Pt} {lo hi t : Nat} {a : Int} (hM : MR x lo hi) (ht : At t a) (hy : HeardR x t y) : ∃ l m u s : Int, At y.mean m ∧ At y.stray s ∧ fkey lo = some l ∧ fkey hi = some u ∧ 0 ≤ l ∧ u < bInf ∧ min l a ≤ m ∧ m ≤ max u a := by
  cases hM with
  | new h l u =>
    obtain ⟨e1, e2⟩ := hy.first h
    obtain ⟨b, hb⟩ := half_at ht e2
    have : (0 : Int) < (bInf : Int) := by decide
    exact ⟨_, a, _, b, by rw [e1]; exact ht, hb, l, u, by omega, by omega, by omega, by omega⟩
  | old h l m u s hl hm hu hs h1 h2 =>
    obtain ⟨d, a', b, c, hd, ha, hb, hst, hc, hmn⟩ := hy.later h
    obtain ⟨z, z1, z2, z3, e, e1, e2⟩ := toward ht.1 ht.2.1 ht.2.2 hm.1 hm.2.1 hm.2.2 (by decide) read_8 hd hc hmn
    have hea := abs_at e1
    have ha2 := ht.2.2
    have hm2 := hm.2.2
    obtain ⟨z', y1, y2, y3, _⟩ := toward hea (by omega) (by omega) hs.1 hs.2.1 hs.2.2 (by decide) read_4 ha hb hst
    have := ht.2
    have := hm.2
    have := hs.2
    have := hl.2
    have := hu.2
    exact ⟨l, z, u, z', ⟨z1, by omega, by omega⟩, ⟨y1, by omega, by omega⟩, hl.1, hu.1, by omega, by omega, by omega, by omega⟩
/-- The lesser and the greater. -/
theorem fmmx_of {mx : Bool} {x y : Nat} {a b : Int} {K : Nat → Prop} (hx : fkey x = some a) (hy : fkey y = some b) (hK : ∀ r, fkey r = some (if mx then max a b else min a b) → K r) : fmmx .f64 mx x y K := by
  refine ⟨?_⟩
  have ho : FloatKind.f64.format.order x y = some (compare a b) := by rw [order_key, hx, hy]; rfl
  rw [ho]
  rcases Int.lt_trichotomy a b with h | h | h
  · have e : compare a b = .lt := by simp [compare, compareOfLessAndEq, h]
    rw [e]
    refine hK _ ?_
    cases mx
    · rw [if_neg (by decide), if_neg (by decide), hx, Int.min_eq_left (by omega)]
    · rw [if_pos rfl, if_pos rfl, hy, Int.max_eq_right (by omega)]
  · have e : compare a b = .eq := by subst h; simp [compare, compareOfLessAndEq]
    rw [e]
    subst h
    refine hK _ ?_
    rw [Int.min_self, Int.max_self, ite_self]
    split <;> split <;> assumption
  · have e : compare a b = .gt := by
      have h2 : ¬ a < b := by omega
      have h3 : ¬ a = b := by omega
      simp [compare, compareOfLessAndEq, h2, h3]
    rw [e]
    refine hK _ ?_
    cases mx
    · rw [if_neg (by decide), if_neg (by decide), hy, Int.min_eq_right (by omega)]
    · rw [if_pos rfl, if_pos rfl, hx, Int.max_eq_left (by omega)]
/-- All that is asked after a trip. -/
structure Asked (y : Pt) (t lo hi : Nat) : Prop where
  low : (fGtK .f64 y.mean lo || fEqK .f64 y.mean lo) = true
  high : (fLtK .f64 y.mean hi || fEqK .f64 y.mean hi) = true
  stray : (fGtK .f64 y.stray 0 || fEqK .f64 y.stray 0) = true
  one : fEqK .f64 lo hi = false ∨ (fEqK .f64 lo hi = true ∧ fEqK .f64 y.mean t = true)
theorem asked {x y : Pt} {lo hi t lo' hi' : Nat} {a l u : Int} (hM : MR x lo hi) (ht : At t a) (hy : HeardR x t y) (kl : fkey lo = some l) (ku : fkey hi = some u) (h1 : fkey lo' = some (min l a)) (h2 : fkey hi' = some (max u a)) : MR y lo' hi' ∧ Asked y t lo' hi' := by
  obtain ⟨l', m, u', s, hm, hs, kl', ku', b1, b2, b3, b4⟩ := heard_at hM ht hy
  rw [kl] at kl'
  rw [ku] at ku'
  obtain rfl : l = l' := by injection kl'
  obtain rfl : u = u' := by injection ku'
  have := ht.2
  have := hm.2
  have := hs.2
  refine ⟨.old hy.heard _ m _ s ⟨h1, by omega, by omega⟩ hm ⟨h2, by omega, by omega⟩ hs b3 b4, ?_, ?_, ?_, ?_⟩
  · rw [fGt_lt, fLt_at h1 hm.1, fEq_at hm.1 h1, ← Bool.decide_or]; exact decide_eq_true (by omega)
  · rw [fLt_at hm.1 h2, fEq_at hm.1 h2, ← Bool.decide_or]; exact decide_eq_true (by omega)
  · rw [fGt_lt, fLt_at key_zero hs.1, fEq_at hs.1 key_zero, ← Bool.decide_or]; exact decide_eq_true (by omega)
  · rw [fEq_at h1 h2, fEq_at hm.1 ht.1]
    by_cases h : min l a = max u a
    · exact .inr ⟨decide_eq_true h, decide_eq_true (by omega)⟩
    · exact .inl (decide_eq_false h)
theorem MR.keys {x : Pt} {lo hi : Nat} (h : MR x lo hi) : ∃ l u, fkey lo = some l ∧ fkey hi = some u := by
  cases h with
  | new _ l u => exact ⟨_, _, l, u⟩
  | old _ l m u s hl hm hu hs _ _ => exact ⟨_, _, hl.1, hu.1⟩
end Go.Proofs.Ytmnimmhpclhmfaa.PC
