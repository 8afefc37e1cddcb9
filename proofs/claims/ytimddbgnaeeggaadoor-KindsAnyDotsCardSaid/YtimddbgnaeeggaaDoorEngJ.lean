/- The engine, parts J. -/
import Derived.Test.YtimddbgnaeeggaaDoorEngI
import GoSem.Core.Float
/- The engine, part J: floats of 64 bits by their rungs. -/
set_option linter.unusedVariables false
namespace Go.Eng
def bSign : Nat := 9223372036854775808
def bInf : Nat := 9218868437227405312
def bBin : Nat := 4503599627370496
/-- The rung of a float, its sign. -/
def rung (b : Nat) : Nat := b % bSign
def sgn (b : Nat) : Bool := b / bSign % 2 == 1
/-- Its place in the order; none: not a number. -/
def fkey (b : Nat) : Option Int := if rung b ≤ bInf then some (if sgn b then -(rung b : Int) else (rung b : Int)) else none
/-- The magnitude of a rung. -/
def vmag (r : Nat) : Nat := if r < bBin then r else (bBin + r % bBin) * 2 ^ (r / bBin - 1)
theorem vmag_step (r : Nat) : vmag r < vmag (r + 1) := by
  unfold vmag bBin
  by_cases h1 : r + 1 < 4503599627370496
  · rw [if_pos (by omega), if_pos h1]; omega
  · by_cases h2 : r < 4503599627370496
    · rw [if_pos h2, if_neg h1]
      have e1 : (r + 1) % 4503599627370496 = 0 := by omega
      have e2 : (r + 1) / 4503599627370496 = 1 := by omega
      rw [e1, e2]; simp; omega
    · rw [if_neg h2, if_neg h1]
      by_cases h3 : (r + 1) / 4503599627370496 = r / 4503599627370496
      · rw [h3]
        have e1 : (r + 1) % 4503599627370496 = r % 4503599627370496 + 1 := by omega
        rw [e1]
        exact Nat.mul_lt_mul_of_pos_right (by omega) (Nat.two_pow_pos _)
      · have e1 : (r + 1) / 4503599627370496 = r / 4503599627370496 + 1 := by omega
        have e2 : (r + 1) % 4503599627370496 = 0 := by omega
        have e3 : r % 4503599627370496 = 4503599627370495 := by omega
        obtain ⟨q, hq⟩ : ∃ q, r / 4503599627370496 = q + 1 := ⟨r / 4503599627370496 - 1, by omega⟩
        rw [e1, e2, e3, hq]
        simp only [Nat.add_sub_cancel, Nat.pow_succ]
        have := Nat.two_pow_pos q
        omega
theorem vmag_lt {r s : Nat} (h : r < s) : vmag r < vmag s := by
  induction s with
  | zero => omega
  | succ s ih =>
    have hs := vmag_step s
    by_cases e : r = s
    · subst e; exact hs
    · have := ih (by omega); omega
theorem vmag_lt_iff (r s : Nat) : vmag r < vmag s ↔ r < s := by
  constructor
  · intro h
    rcases Nat.lt_trichotomy r s with h1 | h1 | h1
    · exact h1
    · subst h1; omega
    · have := vmag_lt h1; omega
  · exact vmag_lt
theorem vmag_eq_iff (r s : Nat) : vmag r = vmag s ↔ r = s := by
  constructor
  · intro h
    rcases Nat.lt_trichotomy r s with h1 | h1 | h1
    · have := vmag_lt h1; omega
    · exact h1
    · have := vmag_lt h1; omega
  · intro h; rw [h]
theorem vmag_zero : vmag 0 = 0 := by decide
def sg (s : Bool) (n : Nat) : Int := if s then -(n : Int) else (n : Int)
theorem signed_eq (s : Bool) (m k : Nat) : Ieee.signed s m k = sg s (m * 2 ^ k) := by
  unfold Ieee.signed sg
  rw [Nat.shiftLeft_eq]
theorem sg_mul (s : Bool) (a c : Nat) : sg s (a * c) = sg s a * (c : Int) := by
  unfold sg
  split <;> simp [Int.neg_mul]
theorem compare_mul {a b : Int} {c : Nat} (hc : 0 < c) : compare (a * c) (b * c) = compare a b := by
  have hc' : (0 : Int) < (c : Int) := by omega
  rcases Int.lt_trichotomy a b with h | h | h
  · have h2 : a * c < b * c := Int.mul_lt_mul_of_pos_right h hc'
    simp [compare, compareOfLessAndEq, h, h2]
  · subst h; simp [compare, compareOfLessAndEq]
  · have h2 : b * c < a * c := Int.mul_lt_mul_of_pos_right h hc'
    have h3 : ¬ a < b := by omega
    have h4 : ¬ a = b := by omega
    have h5 : ¬ a * c < b * c := by omega
    have h6 : ¬ a * c = b * c := by omega
    simp [compare, compareOfLessAndEq, h3, h4, h5, h6]
theorem order_num (s t : Bool) (m n i j : Nat) (L : Int) : Ieee.Datum.order (.number s m (L + i)) (.number t n (L + j)) = some (compare (sg s (m * 2 ^ i)) (sg t (n * 2 ^ j))) := by
  simp only [Ieee.Datum.order, signed_eq]
  congr 1
  have e : min (L + (i : Int)) (L + (j : Int)) = L + ((min i j : Nat) : Int) := by omega
  rw [e]
  have e1 : (L + (i : Int) - (L + ((min i j : Nat) : Int))).toNat = i - min i j := by omega
  have e2 : (L + (j : Int) - (L + ((min i j : Nat) : Int))).toNat = j - min i j := by omega
  rw [e1, e2, ← compare_mul (c := 2 ^ min i j) (Nat.two_pow_pos _), ← sg_mul, ← sg_mul, Nat.mul_assoc, Nat.mul_assoc, ← Nat.pow_add, ← Nat.pow_add, Nat.sub_add_cancel (by omega), Nat.sub_add_cancel (by omega)]
theorem compare_sg (s t : Bool) (a b a' b' : Nat) (h1 : a < b ↔ a' < b') (h2 : a = b ↔ a' = b') (h3 : a = 0 ↔ a' = 0) (h4 : b = 0 ↔ b' = 0) : compare (sg s a) (sg t b) = compare (sg s a') (sg t b') := by
  have key : (sg s a < sg t b ↔ sg s a' < sg t b') ∧ (sg s a = sg t b ↔ sg s a' = sg t b') := by
    cases s <;> cases t <;> simp only [sg, if_true, Bool.false_eq_true, if_false] <;> omega
  simp only [compare, compareOfLessAndEq]
  simp only [key.1, key.2]
theorem read_fin (b : Nat) (h : rung b < bInf) : ∃ m i : Nat, Ieee.double.read b = .number (sgn b) m (-1074 + i) ∧ m * 2 ^ i = vmag (rung b) := by
  have e1 : Ieee.double.signWeight = bSign := by decide
  have e2 : Ieee.double.binade = bBin := by decide
  have e3 : Ieee.double.infRung = bInf := by decide
  have e4 : Ieee.double.leastPlace = -1074 := by decide
  unfold Ieee.Format.read
  simp only [e1, e2, e3, e4]
  rw [show b % bSign = rung b from rfl]
  by_cases h1 : rung b < bBin
  · refine ⟨rung b, 0, ?_, by unfold vmag; rw [if_pos h1]; simp⟩
    rw [if_pos h1]; rfl
  · refine ⟨bBin + rung b % bBin, rung b / bBin - 1, ?_, by unfold vmag; rw [if_neg h1]⟩
    rw [if_neg h1, if_pos h]; rfl
theorem read_inf (b : Nat) (h : rung b = bInf) : Ieee.double.read b = .infinity (sgn b) := by
  have e1 : Ieee.double.signWeight = bSign := by decide
  have e2 : Ieee.double.binade = bBin := by decide
  have e3 : Ieee.double.infRung = bInf := by decide
  unfold Ieee.Format.read
  simp only [e1, e2, e3]
  rw [show b % bSign = rung b from rfl, h, if_neg (by decide), if_neg (by decide), if_pos rfl]; rfl
theorem read_nan (b : Nat) (h : bInf < rung b) : Ieee.double.read b = .nan (sgn b) (rung b - bInf) := by
  have e1 : Ieee.double.signWeight = bSign := by decide
  have e2 : Ieee.double.binade = bBin := by decide
  have e3 : Ieee.double.infRung = bInf := by decide
  have h0 : bBin < bInf := by decide
  unfold Ieee.Format.read
  simp only [e1, e2, e3]
  rw [show b % bSign = rung b from rfl, if_neg (by omega), if_neg (by omega), if_neg (by omega)]; rfl
theorem fkey_none {b : Nat} (h : fkey b = none) : bInf < rung b := by
  unfold fkey at h
  split at h
  · cases h
  · omega
theorem fkey_some {b : Nat} {z : Int} (h : fkey b = some z) : rung b ≤ bInf ∧ z = sg (sgn b) (rung b) := by
  unfold fkey at h
  split at h
  · injection h with h
    exact ⟨by assumption, h.symm⟩
  · cases h
def cmpK (x y : Option Int) : Option Ordering := match x, y with
  | some a, some b => some (compare a b)
  | _, _ => none
/-- How two floats stand to each other. -/
theorem order_key (x y : Nat) : FloatKind.f64.format.order x y = cmpK (fkey x) (fkey y) := by
  show Ieee.double.order x y = _
  unfold Ieee.Format.order
  cases hx : fkey x with
  | none =>
    rw [read_nan x (fkey_none hx)]
    cases hy : fkey y with
    | none => rw [read_nan y (fkey_none hy)]; rfl
    | some b => cases Ieee.double.read y <;> rfl
  | some a =>
    obtain ⟨hx1, rfl⟩ := fkey_some hx
    cases hy : fkey y with
    | none => rw [read_nan y (fkey_none hy)]; cases Ieee.double.read x <;> rfl
    | some b =>
      obtain ⟨hy1, rfl⟩ := fkey_some hy
      have pos : (0 : Nat) < bInf := by decide
      simp only [cmpK]
      rcases Nat.lt_or_eq_of_le hx1 with hx2 | hx2
      · obtain ⟨m, i, ex, vx⟩ := read_fin x hx2
        rcases Nat.lt_or_eq_of_le hy1 with hy2 | hy2
        · obtain ⟨n, j, ey, vy⟩ := read_fin y hy2
          rw [ex, ey, order_num, vx, vy]
          congr 1
          refine compare_sg _ _ _ _ _ _ (vmag_lt_iff _ _) (vmag_eq_iff _ _) ?_ ?_
          · rw [← vmag_eq_iff (rung x) 0, vmag_zero]
          · rw [← vmag_eq_iff (rung y) 0, vmag_zero]
        · rw [ex, read_inf y hy2, hy2]
          simp only [Ieee.Datum.order]
          congr 1
          cases hs : sgn y <;> cases ht : sgn x <;> simp only [sg, if_true, Bool.false_eq_true, if_false, compare, compareOfLessAndEq] <;> (repeat' split) <;> first | rfl | (exfalso; omega)
      · rcases Nat.lt_or_eq_of_le hy1 with hy2 | hy2
        · obtain ⟨n, j, ey, vy⟩ := read_fin y hy2
          rw [ey, read_inf x hx2, hx2]
          simp only [Ieee.Datum.order]
          congr 1
          cases hs : sgn y <;> cases ht : sgn x <;> simp only [sg, if_true, Bool.false_eq_true, if_false, compare, compareOfLessAndEq] <;> (repeat' split) <;> first | rfl | (exfalso; omega)
        · rw [read_inf x hx2, read_inf y hy2, hx2, hy2]
          simp only [Ieee.Datum.order]
          congr 1
          cases hs : sgn y <;> cases ht : sgn x <;> simp only [sg, if_true, Bool.false_eq_true, if_false, compare, compareOfLessAndEq] <;> (repeat' split) <;> first | rfl | (exfalso; revert pos; simp; omega) | simp_all [Bool.toNat]
/-! ### What programs ask of floats. -/
@[irreducible] def isNan (b : Nat) : Bool := decide (bInf < rung b)
theorem fkey_nan (b : Nat) : isNan b = (fkey b).isNone := by
  unfold isNan fkey
  by_cases h : rung b ≤ bInf
  · rw [if_pos h, decide_eq_false (by omega)]; rfl
  · rw [if_neg h, decide_eq_true (by omega)]; rfl
theorem cmp_lt (a b : Int) : ((some (compare a b) : Option Ordering) == some .lt) = decide (a < b) := by
  rcases Int.lt_trichotomy a b with h | h | h <;> simp only [compare, compareOfLessAndEq]
  · simp [h]
  · subst h; simp
  · have h1 : ¬ a < b := by omega
    have h2 : ¬ a = b := by omega
    simp [h1, h2]
theorem cmp_eq (a b : Int) : ((some (compare a b) : Option Ordering) == some .eq) = decide (a = b) := by
  rcases Int.lt_trichotomy a b with h | h | h <;> simp only [compare, compareOfLessAndEq]
  · have h2 : ¬ a = b := by omega
    simp [h, h2]
  · subst h; simp
  · have h1 : ¬ a < b := by omega
    have h2 : ¬ a = b := by omega
    simp [h1, h2]
theorem cmp_gt (a b : Int) : ((some (compare a b) : Option Ordering) == some .gt) = decide (b < a) := by
  rcases Int.lt_trichotomy a b with h | h | h <;> simp only [compare, compareOfLessAndEq]
  · have h2 : ¬ b < a := by omega
    simp [h, h2]
  · subst h; simp
  · have h1 : ¬ a < b := by omega
    have h2 : ¬ a = b := by omega
    simp [h, h1, h2]
theorem fLt_key (x y : Nat) : fLtK .f64 x y = (match fkey x, fkey y with | some a, some b => decide (a < b) | _, _ => false) := by
  unfold fLtK
  rw [order_key]
  cases fkey x <;> cases fkey y <;> first | rfl | exact cmp_lt _ _
theorem fEq_key (x y : Nat) : fEqK .f64 x y = (match fkey x, fkey y with | some a, some b => decide (a = b) | _, _ => false) := by
  unfold fEqK
  rw [order_key]
  cases fkey x <;> cases fkey y <;> first | rfl | exact cmp_eq _ _
theorem fGt_lt (x y : Nat) : fGtK .f64 x y = fLtK .f64 y x := by
  unfold fGtK fLtK
  rw [order_key, order_key]
  cases fkey x <;> cases fkey y <;> first | rfl | (rw [cmpK, cmpK, cmp_gt, cmp_lt])
theorem fEq_self (x : Nat) : fEqK .f64 x x = !isNan x := by
  rw [fEq_key, fkey_nan]
  cases fkey x <;> simp
theorem nan_bits (x y t : Nat) : isNan ((Question.nanBits .f64 x y).cut t) = true ∧ (Question.nanBits .f64 x y).cut t < 18446744073709551616 := by
  unfold isNan rung bSign bInf Question.cut
  rw [decide_eq_true_iff]
  have h1 : t / 2 % (2 ^ 52 - 1) < 2 ^ 52 - 1 := Nat.mod_lt _ (by decide)
  have h2 : t % 2 = 0 ∨ t % 2 = 1 := by omega
  simp only [Nat.reducePow, Nat.reduceSub] at h1 ⊢
  rcases h2 with h2 | h2 <;> rw [h2] <;> constructor <;> omega
/-- The answer of an operation: a number's bits, or a NaN. -/
def Ans (o : Option Nat) (r : Nat) : Prop := o = some r ∨ (o = none ∧ isNan r = true ∧ r < 18446744073709551616)
theorem fltx_of {x y : Nat} {o : Option Nat} {K : A → Prop} (h : ∀ r, Ans o r → K (.flt .f64 r)) : fltx .f64 x y o K := by
  refine ⟨?_⟩
  cases o with
  | some r => exact h r (.inl rfl)
  | none => exact fun t => h _ (.inr ⟨rfl, (nan_bits x y t).1, (nan_bits x y t).2⟩)
theorem fltx_lit {x y r : Nat} {o : Option Nat} {K : A → Prop} (e : o = some r) (h : K (.flt .f64 r)) : fltx .f64 x y o K := by
  subst e; exact ⟨h⟩
theorem Ans.key {o : Option Nat} {r : Nat} (h : Ans o r) : fkey r = o.bind fkey := by
  rcases h with h | ⟨h, n, _⟩
  · rw [h]; rfl
  · rw [h]
    rw [fkey_nan] at n
    cases hf : fkey r with
    | none => rfl
    | some z => rw [hf] at n; cases n
theorem Ans.add_lt {x y r : Nat} (h : Ans (FloatKind.f64.format.add x y) r) : r < 18446744073709551616 := by
  rcases h with h | ⟨_, _, h⟩
  · exact FloatKind.f64.format.add_lt h
  · exact h
theorem Ans.sub_lt {x y r : Nat} (h : Ans (FloatKind.f64.format.sub x y) r) : r < 18446744073709551616 := by
  rcases h with h | ⟨_, _, h⟩
  · exact FloatKind.f64.format.sub_lt h
  · exact h
theorem Ans.mul_lt {x y r : Nat} (h : Ans (FloatKind.f64.format.mul x y) r) : r < 18446744073709551616 := by
  rcases h with h | ⟨_, _, h⟩
  · exact FloatKind.f64.format.mul_lt h
  · exact h
theorem Ans.div_lt {x y r : Nat} (h : Ans (FloatKind.f64.format.div x y) r) : r < 18446744073709551616 := by
  rcases h with h | ⟨_, _, h⟩
  · exact FloatKind.f64.format.div_lt h
  · exact h
/-- Functions without bodies. -/
theorem ext_bits {P : Program} {fn : Func} {x : Nat} {K : V → Prop} (h1 : (fn.name == "runtime.NumGoroutine") = false) (h2 : Extern.findNext fn = none) (h3 : Extern.find fn = some Extern.MathFloatBits.float64bits) (h : K (.a (.int .u64 (x : Int)))) : extx P fn [.a (.flt .f64 x)] K :=
  ⟨⟨h1, h2, _, h3, fun β w => ⟨_, w.drawn, h, trivial, rfl⟩⟩⟩
theorem ext_from {P : Program} {fn : Func} {x : Int} {K : V → Prop} (h1 : (fn.name == "runtime.NumGoroutine") = false) (h2 : Extern.findNext fn = none) (h3 : Extern.find fn = some Extern.MathFloatBits.float64frombits) (h : K (.a (.flt .f64 x.toNat))) : extx P fn [.a (.int .u64 x)] K :=
  ⟨⟨h1, h2, _, h3, fun β w => ⟨_, w.drawn, h, trivial, rfl⟩⟩⟩
end Go.Eng
