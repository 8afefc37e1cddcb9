import Derived.Test.YtmnimmhpclhmfaaPS
import Derived.Test.YtmnimmhpclhmfaaQT
namespace Go.Proofs.Ytmnimmhpclhmfaa.PC
open Go.Eng
set_option maxRecDepth 100000
theorem s82 : Try.prog.types[82].size = 7 := rfl
theorem b82 : Try.prog.types[82].bytes = 48 := rfl
/-! A float less itself. -/
theorem sub_self_nan {t : Nat} (h : bInf ≤ rung t) : FloatKind.f64.format.sub t t = none := by
  show ((Ieee.double.read t).sum (Ieee.double.read t).opposite).map Ieee.double.write = none
  rcases Nat.lt_or_ge bInf (rung t) with h1 | h1
  · rw [read_nan t h1]; rfl
  · rw [read_inf t (by omega)]; cases sgn t <;> rfl
theorem fin_sub {t d : Nat} (h : Ans (FloatKind.f64.format.sub t t) d) : fEqK .f64 d 0 = fin t := by
  have k0 : fkey 0 = some 0 := by decide
  unfold fin
  rw [fEq_key, k0]
  rcases Nat.lt_or_ge (rung t) bInf with h1 | h1
  · rw [decide_eq_true h1]
    obtain ⟨neg, R, e, _, hR⟩ := sub_res h1 h1
    rw [Int.sub_self] at hR
    have hR0 : R = 0 := Near.exact (r := 0) hR (by decide)
    subst hR0
    have hd : fkey d = some 0 := by
      rw [h.key, e]
      show fkey _ = _
      rw [word_key neg 0 (by decide)]
      cases neg <;> rfl
    rw [hd]
    rfl
  · rw [decide_eq_false (by omega)]
    have hd : fkey d = none := by
      rw [h.key, sub_self_nan h1]
      rfl
    rw [hd]
/-! A float's size, by the sign or by a comparison. -/
theorem neg_abs {d : Nat} (h : sgn d = true) (hd : d < 18446744073709551616) : Op.negFloat .f64 d = absF d := by
  have hb : 9223372036854775808 ≤ d := by
    unfold sgn bSign at h
    rcases Nat.lt_or_ge d 9223372036854775808 with h1 | h1
    · rw [Nat.div_eq_of_lt h1] at h; cases h
    · exact h1
  unfold absF bSign
  show d ^^^ 2 ^ 63 = d % 2 ^ 63
  apply Nat.eq_of_testBit_eq
  intro i
  rw [Nat.testBit_xor, Nat.testBit_two_pow, Nat.testBit_mod_two_pow]
  rcases Nat.lt_trichotomy i 63 with h1 | h1 | h1
  · simp [h1, show ¬ 63 = i by omega]
  · subst h1
    have : d.testBit 63 = true := by
      rw [Nat.testBit_eq_decide_div_mod_eq]
      have e : d / 2 ^ 63 = 1 := by omega
      rw [e]; rfl
    simp [this]
  · have h2 : d.testBit i = false := Nat.testBit_lt_two_pow (Nat.lt_of_lt_of_le hd (by
      have := Nat.pow_le_pow_right (show 0 < 2 by decide) (show 64 ≤ i by omega)
      omega))
    simp [h2, show ¬ 63 = i by omega, show ¬ i < 63 by omega]
theorem abs_pos {d : Nat} (h : sgn d = false) (hd : d < 18446744073709551616) : absF d = d := by
  unfold absF
  unfold sgn at h
  rcases Nat.lt_or_ge d bSign with h1 | h1
  · exact Nat.mod_eq_of_lt h1
  · have : d / bSign = 1 := by unfold bSign at *; omega
    rw [this] at h; cases h
theorem zero_sub {s : Nat} (hs : s < 18446744073709551616) : FloatKind.f64.format.sub 9223372036854775808 s = FloatKind.f64.format.sub 0 s ∨ s = 0 ∨ s = 9223372036854775808 := by
  rcases Nat.lt_or_ge (rung s) bInf with h1 | h1
  · by_cases h0 : rung s = 0
    · right
      unfold rung bSign at h0
      omega
    · left
      obtain ⟨n1, R1, e1, f1, g1⟩ := sub_res (x := 9223372036854775808) (y := s) (by decide) h1
      obtain ⟨n2, R2, e2, f2, g2⟩ := sub_res (x := 0) (y := s) (by decide) h1
      have v1 : fval 9223372036854775808 = 0 := by decide
      have v2 : fval 0 = 0 := by decide
      rw [v1] at f1 g1
      rw [v2] at f2 g2
      have hv : (0 - fval s).natAbs = vmag (rung s) := by unfold fval; rw [Int.zero_sub, Int.natAbs_neg, sg_abs]
      rw [hv] at g1 g2
      have hne : 0 - fval s ≠ 0 := fun e => by
        rw [e] at hv
        have := (vmag_eq_iff (rung s) 0).1 (by rw [← hv, vmag_zero]; rfl)
        exact h0 this
      rw [e1, e2, f1 hne, f2 hne, Near.exact g1 (by omega), Near.exact g2 (by omega)]
  · left
    show ((Ieee.double.read _).sum (Ieee.double.read s).opposite).map Ieee.double.write = ((Ieee.double.read _).sum (Ieee.double.read s).opposite).map Ieee.double.write
    rcases Nat.lt_or_ge bInf (rung s) with h2 | h2
    · rw [read_nan s h2]; rfl
    · rw [read_inf s (by omega)]; rfl
theorem size_ok {d s z a b r : Nat} (hd : d < 18446744073709551616) (hs : s < 18446744073709551616) (h1 : fLtK .f64 d 0 = true → z = Op.negFloat .f64 d) (h2 : fLtK .f64 d 0 = false → z = d)
    (ha : Ans (FloatKind.f64.format.sub z s) a) (hb : Ans (FloatKind.f64.format.div a 4616189618054758400) b) (hr : Ans (FloatKind.f64.format.add s b) r) :
    ∃ a b, Ans (FloatKind.f64.format.sub (absF d) s) a ∧ Ans (FloatKind.f64.format.div a 4616189618054758400) b ∧ Ans (FloatKind.f64.format.add s b) r := by
  have k0 : fkey 0 = some 0 := by decide
  cases hsg : sgn d with
  | false =>
    have hz : z = d := by
      cases hl : fLtK .f64 d 0 with
      | false => exact h2 hl
      | true =>
        exfalso
        rw [fLt_key, k0] at hl
        unfold fkey at hl
        rw [hsg] at hl
        split at hl
        · rename_i hk hk'
          injection hk' with hk'
          subst hk'
          split at hk
          · simp only [Bool.false_eq_true, if_false, Option.some.injEq] at hk
            have := of_decide_eq_true hl
            omega
          · cases hk
        · cases hl
    rw [abs_pos hsg hd]
    subst hz
    exact ⟨a, b, ha, hb, hr⟩
  | true =>
    cases hl : fLtK .f64 d 0 with
    | true =>
      have hz := h1 hl
      rw [neg_abs hsg hd] at hz
      subst hz
      exact ⟨a, b, ha, hb, hr⟩
    | false =>
      have hz := h2 hl
      subst hz
      rw [fLt_key, k0] at hl
      unfold fkey at hl
      rw [hsg] at hl
      by_cases hn : rung z ≤ bInf
      · rw [if_pos hn] at hl
        have h0 : rung z = 0 := by
          have := of_decide_eq_false hl
          simp only [if_true] at this
          omega
        have hz0 : z = 9223372036854775808 := by
          unfold rung bSign at h0
          unfold sgn bSign at hsg
          rcases Nat.lt_or_ge z 9223372036854775808 with h | h
          · rw [Nat.div_eq_of_lt h] at hsg; cases hsg
          · omega
        subst hz0
        have hab : absF 9223372036854775808 = 0 := by unfold absF; decide
        rw [hab]
        rcases zero_sub hs with e | rfl | rfl
        · rw [e] at ha; exact ⟨a, b, ha, hb, hr⟩
        · have ea : a = 9223372036854775808 := by
            rcases ha with ha | ⟨ha, _⟩
            · have : FloatKind.f64.format.sub 9223372036854775808 0 = some 9223372036854775808 := by decide
              rw [this] at ha; injection ha with ha; exact ha.symm
            · have : FloatKind.f64.format.sub 9223372036854775808 0 = some 9223372036854775808 := by decide
              rw [this] at ha; cases ha
          subst ea
          have eb : b = 9223372036854775808 := by
            have : FloatKind.f64.format.div 9223372036854775808 4616189618054758400 = some 9223372036854775808 := by decide
            rcases hb with hb | ⟨hb, _⟩
            · rw [this] at hb; injection hb with hb; exact hb.symm
            · rw [this] at hb; cases hb
          subst eb
          have er : FloatKind.f64.format.add 0 9223372036854775808 = FloatKind.f64.format.add 0 0 := by decide
          rw [er] at hr
          exact ⟨0, 0, .inl (by decide), .inl (by decide), hr⟩
        · have e1 : FloatKind.f64.format.sub 9223372036854775808 9223372036854775808 = FloatKind.f64.format.sub 0 9223372036854775808 := by decide
          rw [e1] at ha
          exact ⟨a, b, ha, hb, hr⟩
      · have hnan : bInf < rung z := by omega
        have hnan2 : bInf < rung (absF z) := by
          have : rung (absF z) = rung z := by unfold rung absF; exact Nat.mod_mod _ _
          omega
        have e : FloatKind.f64.format.sub (absF z) s = FloatKind.f64.format.sub z s := by
          show ((Ieee.double.read _).sum (Ieee.double.read s).opposite).map Ieee.double.write = ((Ieee.double.read _).sum (Ieee.double.read s).opposite).map Ieee.double.write
          rw [read_nan z hnan, read_nan _ hnan2]; rfl
        rw [e]
        exact ⟨a, b, ha, hb, hr⟩
/-- A partner's row, where it lies. -/
theorem prow_slice {cs : List A} {L : List Pt} (e : cs = prow L) {i o : Nat} {x : Pt} (h : L[i]? = some x) (ho : o = i * 7) : List.drop o (List.take (o + Try.prog.types[82].size) cs) = x.row := by
  subst e ho
  rw [s82, prow_split h]
  obtain ⟨hi, _⟩ := List.getElem?_eq_some_iff.1 h
  have hl : (prow (L.take i)).length = i * 7 := by rw [prow_length, List.length_take]; omega
  rw [List.take_append, List.drop_append, hl, List.drop_of_length_le (by rw [List.length_take, hl]; omega)]
  have hx : x.row.length = 7 := rfl
  rw [List.length_take, hl, List.nil_append]
  rw [show i * 7 + 7 - i * 7 = 7 by omega, show i * 7 - min (i * 7 + 7) (i * 7) = 0 by omega, List.drop_zero, List.take_append_of_le_length (by rw [hx]; omega), List.take_of_length_le (by rw [hx]; omega)]
theorem prow_setRow {cs : List A} {L : List Pt} (e : cs = prow L) {i o : Nat} {x x' : Pt} (h : L[i]? = some x) (ho : o = i * 7) : storeL cs o x'.row = prow (L.set i x') := by
  subst e ho
  obtain ⟨hi, _⟩ := List.getElem?_eq_some_iff.1 h
  have h' : (L.set i x')[i]? = some x' := by rw [List.getElem?_set, if_pos rfl, if_pos hi]
  rw [prow_split h, prow_split h', List.take_set_of_le (Nat.le_refl i), List.drop_set_of_lt (by omega)]
  exact storeL_mid _ _ _ _ _ (by rw [prow_length, List.length_take]; omega) rfl
section
variable {ro : Addr → A → Prop}
theorem finite56 (t : Nat) {K : V → Hp → Prop} (hK : K (.a (.bool (fin t))) []) : Go.Eng.Fn Try.prog ro 56 [.a (.flt .f64 t)] [] K := by
  refine Go.Eng.Fn.weak ?_
  refine Go.Eng.Fn.of_code (gOf []) Try.func56 rfl (Nat.le_of_ble_eq_true rfl) ?_
  conv => whnf
  repeat' (first
    | ((with_reducible refine regx_of ?_ ?_); (· decide +kernel); conv => whnf)
    | ((with_reducible refine growx_pre ?_ ?_); (· exact ⟨_, rfl⟩); conv => whnf)
    | ((with_reducible refine needm_of ?_ ?_); (· first | assumption | exact decide_eq_true (by omega) | exact mkOK_of (by decide) | decide +kernel | (refine decide_eq_true ?_; simp (disch := omega) only [i64w]; omega)); conv => whnf)
    | ((with_reducible refine condm_pos ?_ ?_); (· assumption); conv => whnf)
    | ((with_reducible refine condm_neg ?_ ?_); (· assumption); conv => whnf)
    | ((with_reducible refine forceL_fv (by assumption) ?_); conv => whnf)
    | ((with_reducible refine forceL_rfv (by assumption) ?_); conv => whnf)
    | ((with_reducible refine forceNm_of ?_); conv => whnf)
    | ((with_reducible refine needm_of (fv_lenL (by assumption) (by assumption)) ?_); conv => whnf)
    | ((with_reducible refine optm_var (fv_strL (by assumption) (by assumption)) (fun s hs => ?_)); conv => whnf)
    | ((with_reducible refine forceA_of ?_); conv => whnf)
    | ((with_reducible refine forceL_pl (by assumption) ?_); conv => whnf)
    | ((with_reducible refine forceL_rpl (by assumption) ?_); conv => whnf)
    | ((with_reducible refine fltx_of (fun r hr => ?_)); conv => whnf)
    | ((refine ext_bits (by rfl) bits_n bits_f ?_); conv => whnf)
    | ((refine ext_from (by rfl) from_n from_f ?_); conv => whnf)
    | fail)
  rw [fin_sub hr]
  exact keepOf (v₀ := .a (.bool (fin t))) [] [] rfl trivial rfl hK
theorem new29 (n : Nat) (h1 : 1 ≤ n) (h2 : n ≤ 5) {K : V → Hp → Prop} (hK : ∀ cs, cs = prow (List.replicate n p0) → K (.t [.a (.ptr 1 0), .a (.int .i64 0)]) [.cells cs 82 false, .cells [.slc 0 0 n n] 79 false]) : Go.Eng.Fn Try.prog ro 29 [.a (.int .i64 (n : Int))] [] K := by
  have c1 : decide ((n : Int) < 1) = false := decide_eq_false (by omega)
  have c2 : decide ((n : Int) > 5) = false := decide_eq_false (by omega)
  have c3 : mkOK (n : Int) (n : Int) Try.prog.types[82].bytes = true := mkOK_of (by rw [b82]; omega)
  refine Go.Eng.Fn.weak ?_
  refine Go.Eng.Fn.of_code (gOf []) Try.func29 rfl (Nat.le_of_ble_eq_true rfl) ?_
  conv => whnf
  repeat' (first
    | ((with_reducible refine regx_of ?_ ?_); (· decide +kernel); conv => whnf)
    | ((with_reducible refine growx_pre ?_ ?_); (· exact ⟨_, rfl⟩); conv => whnf)
    | ((with_reducible refine needm_of ?_ ?_); (· first | assumption | exact decide_eq_true (by omega) | exact mkOK_of (by decide) | decide +kernel | (refine decide_eq_true ?_; simp (disch := omega) only [i64w]; omega)); conv => whnf)
    | ((with_reducible refine condm_pos ?_ ?_); (· assumption); conv => whnf)
    | ((with_reducible refine condm_neg ?_ ?_); (· assumption); conv => whnf)
    | ((with_reducible refine forceL_fv (by assumption) ?_); conv => whnf)
    | ((with_reducible refine forceL_rfv (by assumption) ?_); conv => whnf)
    | ((with_reducible refine forceNm_of ?_); conv => whnf)
    | ((with_reducible refine needm_of (fv_lenL (by assumption) (by assumption)) ?_); conv => whnf)
    | ((with_reducible refine optm_var (fv_strL (by assumption) (by assumption)) (fun s hs => ?_)); conv => whnf)
    | ((with_reducible refine forceA_of ?_); conv => whnf)
    | ((with_reducible refine forceL_pl (by assumption) ?_); conv => whnf)
    | ((with_reducible refine forceL_rpl (by assumption) ?_); conv => whnf)
    | ((with_reducible refine fltx_of (fun r hr => ?_)); conv => whnf)
    | ((refine ext_bits (by rfl) bits_n bits_f ?_); conv => whnf)
    | ((refine ext_from (by rfl) from_n from_f ?_); conv => whnf)
    | fail)
  refine forceL_var (l' := prow (List.replicate n p0)) (by rw [Int.toNat_natCast, s82]; exact prow_zeros n) (fun cs hcs => ?_)
  have hp := Pl.prow hcs
  rw [Int.toNat_natCast]
  conv => whnf
  repeat' (first
    | ((with_reducible refine regx_of ?_ ?_); (· decide +kernel); conv => whnf)
    | ((with_reducible refine growx_pre ?_ ?_); (· exact ⟨_, rfl⟩); conv => whnf)
    | ((with_reducible refine needm_of ?_ ?_); (· first | assumption | exact decide_eq_true (by omega) | exact mkOK_of (by decide) | decide +kernel | (refine decide_eq_true ?_; simp (disch := omega) only [i64w]; omega)); conv => whnf)
    | ((with_reducible refine condm_pos ?_ ?_); (· assumption); conv => whnf)
    | ((with_reducible refine condm_neg ?_ ?_); (· assumption); conv => whnf)
    | ((with_reducible refine forceL_fv (by assumption) ?_); conv => whnf)
    | ((with_reducible refine forceL_rfv (by assumption) ?_); conv => whnf)
    | ((with_reducible refine forceNm_of ?_); conv => whnf)
    | ((with_reducible refine needm_of (fv_lenL (by assumption) (by assumption)) ?_); conv => whnf)
    | ((with_reducible refine optm_var (fv_strL (by assumption) (by assumption)) (fun s hs => ?_)); conv => whnf)
    | ((with_reducible refine forceA_of ?_); conv => whnf)
    | ((with_reducible refine forceL_pl (by assumption) ?_); conv => whnf)
    | ((with_reducible refine forceL_rpl (by assumption) ?_); conv => whnf)
    | ((with_reducible refine fltx_of (fun r hr => ?_)); conv => whnf)
    | ((refine ext_bits (by rfl) bits_n bits_f ?_); conv => whnf)
    | ((refine ext_from (by rfl) from_n from_f ?_); conv => whnf)
    | fail)
  exact keepOf (v₀ := .t [.a (.ptr 1 0), .a (.int .i64 0)]) [.cells cs 82 false, .cells [.slc 0 0 n n] 79 false] [0, 1] rfl ⟨ren_pl hp _ _ _, rfl, trivial⟩ (by simp [nodupb, baseb, Ob.okb, frmOk, V.okb, E.okb, A.okb, hp.2] <;> decide) (hK cs hcs)
theorem new29e (n : Int) (h : ¬ (1 ≤ n ∧ n ≤ 5)) {K : V → Hp → Prop} (hK : K (.t [.a .nilp, .a (.int .i64 1)]) []) : Go.Eng.Fn Try.prog ro 29 [.a (.int .i64 n)] [] K := by
  refine Go.Eng.Fn.weak ?_
  refine Go.Eng.Fn.of_code (gOf []) Try.func29 rfl (Nat.le_of_ble_eq_true rfl) ?_
  by_cases h1 : n < 1
  · have c1 : decide (n < 1) = true := decide_eq_true h1
    conv => whnf
    repeat' (first
      | ((with_reducible refine regx_of ?_ ?_); (· decide +kernel); conv => whnf)
      | ((with_reducible refine growx_pre ?_ ?_); (· exact ⟨_, rfl⟩); conv => whnf)
      | ((with_reducible refine needm_of ?_ ?_); (· first | assumption | exact decide_eq_true (by omega) | exact mkOK_of (by decide) | decide +kernel | (refine decide_eq_true ?_; simp (disch := omega) only [i64w]; omega)); conv => whnf)
      | ((with_reducible refine condm_pos ?_ ?_); (· assumption); conv => whnf)
      | ((with_reducible refine condm_neg ?_ ?_); (· assumption); conv => whnf)
      | ((with_reducible refine forceL_fv (by assumption) ?_); conv => whnf)
      | ((with_reducible refine forceL_rfv (by assumption) ?_); conv => whnf)
      | ((with_reducible refine forceNm_of ?_); conv => whnf)
      | ((with_reducible refine needm_of (fv_lenL (by assumption) (by assumption)) ?_); conv => whnf)
      | ((with_reducible refine optm_var (fv_strL (by assumption) (by assumption)) (fun s hs => ?_)); conv => whnf)
      | ((with_reducible refine forceA_of ?_); conv => whnf)
      | ((with_reducible refine forceL_pl (by assumption) ?_); conv => whnf)
      | ((with_reducible refine forceL_rpl (by assumption) ?_); conv => whnf)
      | ((with_reducible refine fltx_of (fun r hr => ?_)); conv => whnf)
      | ((refine ext_bits (by rfl) bits_n bits_f ?_); conv => whnf)
      | ((refine ext_from (by rfl) from_n from_f ?_); conv => whnf)
      | fail)
    exact keepOf (v₀ := .t [.a .nilp, .a (.int .i64 1)]) [] [] rfl trivial rfl hK
  · have c1 : decide (n < 1) = false := decide_eq_false h1
    have c2 : decide (n > 5) = true := decide_eq_true (by omega)
    conv => whnf
    repeat' (first
      | ((with_reducible refine regx_of ?_ ?_); (· decide +kernel); conv => whnf)
      | ((with_reducible refine growx_pre ?_ ?_); (· exact ⟨_, rfl⟩); conv => whnf)
      | ((with_reducible refine needm_of ?_ ?_); (· first | assumption | exact decide_eq_true (by omega) | exact mkOK_of (by decide) | decide +kernel | (refine decide_eq_true ?_; simp (disch := omega) only [i64w]; omega)); conv => whnf)
      | ((with_reducible refine condm_pos ?_ ?_); (· assumption); conv => whnf)
      | ((with_reducible refine condm_neg ?_ ?_); (· assumption); conv => whnf)
      | ((with_reducible refine forceL_fv (by assumption) ?_); conv => whnf)
      | ((with_reducible refine forceL_rfv (by assumption) ?_); conv => whnf)
      | ((with_reducible refine forceNm_of ?_); conv => whnf)
      | ((with_reducible refine needm_of (fv_lenL (by assumption) (by assumption)) ?_); conv => whnf)
      | ((with_reducible refine optm_var (fv_strL (by assumption) (by assumption)) (fun s hs => ?_)); conv => whnf)
      | ((with_reducible refine forceA_of ?_); conv => whnf)
      | ((with_reducible refine forceL_pl (by assumption) ?_); conv => whnf)
      | ((with_reducible refine forceL_rpl (by assumption) ?_); conv => whnf)
      | ((with_reducible refine fltx_of (fun r hr => ?_)); conv => whnf)
      | ((refine ext_bits (by rfl) bits_n bits_f ?_); conv => whnf)
      | ((refine ext_from (by rfl) from_n from_f ?_); conv => whnf)
      | fail)
    exact keepOf (v₀ := .t [.a .nilp, .a (.int .i64 1)]) [] [] rfl trivial rfl hK
theorem new19e (n : Int) (h : ¬ (1 ≤ n ∧ n ≤ 5)) {K : V → Hp → Prop} (hK : K (.t [.a .nilp, .a (.int .i64 1)]) []) : Go.Eng.Fn Try.prog ro 19 [.a (.int .i64 n)] [] K := by
  refine Go.Eng.Fn.weak ?_
  refine Go.Eng.Fn.of_code (gOf []) Try.func19 rfl (Nat.le_of_ble_eq_true rfl) ?_
  by_cases h1 : n < 1
  · have c1 : decide (n < 1) = true := decide_eq_true h1
    conv => whnf
    repeat' (first
      | ((with_reducible refine regx_of ?_ ?_); (· decide +kernel); conv => whnf)
      | ((with_reducible refine growx_pre ?_ ?_); (· exact ⟨_, rfl⟩); conv => whnf)
      | ((with_reducible refine needm_of ?_ ?_); (· first | assumption | exact decide_eq_true (by omega) | exact mkOK_of (by decide) | decide +kernel | (refine decide_eq_true ?_; simp (disch := omega) only [i64w]; omega)); conv => whnf)
      | ((with_reducible refine condm_pos ?_ ?_); (· assumption); conv => whnf)
      | ((with_reducible refine condm_neg ?_ ?_); (· assumption); conv => whnf)
      | ((with_reducible refine forceL_fv (by assumption) ?_); conv => whnf)
      | ((with_reducible refine forceL_rfv (by assumption) ?_); conv => whnf)
      | ((with_reducible refine forceNm_of ?_); conv => whnf)
      | ((with_reducible refine needm_of (fv_lenL (by assumption) (by assumption)) ?_); conv => whnf)
      | ((with_reducible refine optm_var (fv_strL (by assumption) (by assumption)) (fun s hs => ?_)); conv => whnf)
      | ((with_reducible refine forceA_of ?_); conv => whnf)
      | ((with_reducible refine forceL_pl (by assumption) ?_); conv => whnf)
      | ((with_reducible refine forceL_rpl (by assumption) ?_); conv => whnf)
      | ((with_reducible refine fltx_of (fun r hr => ?_)); conv => whnf)
      | ((refine ext_bits (by rfl) bits_n bits_f ?_); conv => whnf)
      | ((refine ext_from (by rfl) from_n from_f ?_); conv => whnf)
      | fail)
    exact keepOf (v₀ := .t [.a .nilp, .a (.int .i64 1)]) [] [] rfl trivial rfl hK
  · have c1 : decide (n < 1) = false := decide_eq_false h1
    have c2 : decide (n > 5) = true := decide_eq_true (by omega)
    conv => whnf
    repeat' (first
      | ((with_reducible refine regx_of ?_ ?_); (· decide +kernel); conv => whnf)
      | ((with_reducible refine growx_pre ?_ ?_); (· exact ⟨_, rfl⟩); conv => whnf)
      | ((with_reducible refine needm_of ?_ ?_); (· first | assumption | exact decide_eq_true (by omega) | exact mkOK_of (by decide) | decide +kernel | (refine decide_eq_true ?_; simp (disch := omega) only [i64w]; omega)); conv => whnf)
      | ((with_reducible refine condm_pos ?_ ?_); (· assumption); conv => whnf)
      | ((with_reducible refine condm_neg ?_ ?_); (· assumption); conv => whnf)
      | ((with_reducible refine forceL_fv (by assumption) ?_); conv => whnf)
      | ((with_reducible refine forceL_rfv (by assumption) ?_); conv => whnf)
      | ((with_reducible refine forceNm_of ?_); conv => whnf)
      | ((with_reducible refine needm_of (fv_lenL (by assumption) (by assumption)) ?_); conv => whnf)
      | ((with_reducible refine optm_var (fv_strL (by assumption) (by assumption)) (fun s hs => ?_)); conv => whnf)
      | ((with_reducible refine forceA_of ?_); conv => whnf)
      | ((with_reducible refine forceL_pl (by assumption) ?_); conv => whnf)
      | ((with_reducible refine forceL_rpl (by assumption) ?_); conv => whnf)
      | ((with_reducible refine fltx_of (fun r hr => ?_)); conv => whnf)
      | ((refine ext_bits (by rfl) bits_n bits_f ?_); conv => whnf)
      | ((refine ext_from (by rfl) from_n from_f ?_); conv => whnf)
      | fail)
    exact keepOf (v₀ := .t [.a .nilp, .a (.int .i64 1)]) [] [] rfl trivial rfl hK
theorem there55 (cs : List A) (hp : Pl cs) (n : Nat) (mk : Bool) (i : Int) {K : V → Hp → Prop}
    (hK1 : ¬ (1 ≤ i ∧ i ≤ n) → K (.a (.bool false)) [.cells cs 82 mk, .cells [.slc 0 0 n n] 79 false])
    (hK2 : ∀ k, k < n → i = ((k + 1 : Nat) : Int) → K (.a (.bool true)) [.cells cs 82 mk, .cells [.slc 0 0 n n] 79 false]) :
    Go.Eng.Fn Try.prog ro 55 [.a (.ptr 1 0), .a (.int .i64 i)] [.cells cs 82 mk, .cells [.slc 0 0 n n] 79 false] K := by
  refine Go.Eng.Fn.weak ?_
  refine Go.Eng.Fn.of 2 (gOf []) rfl Try.func55 rfl (Nat.le_of_ble_eq_true rfl) ?_
  by_cases h1 : i ≥ 1
  · have c1 : decide (i ≥ 1) = true := decide_eq_true h1
    by_cases h2 : i ≤ (n : Int)
    · have c2 : decide (i ≤ (n : Int)) = true := decide_eq_true h2
      conv => whnf
      repeat' (first
        | ((with_reducible refine regx_of ?_ ?_); (· decide +kernel); conv => whnf)
        | ((with_reducible refine growx_pre ?_ ?_); (· exact ⟨_, rfl⟩); conv => whnf)
        | ((with_reducible refine needm_of ?_ ?_); (· first | assumption | exact decide_eq_true (by omega) | exact mkOK_of (by decide) | decide +kernel | (refine decide_eq_true ?_; simp (disch := omega) only [i64w]; omega)); conv => whnf)
        | ((with_reducible refine condm_pos ?_ ?_); (· assumption); conv => whnf)
        | ((with_reducible refine condm_neg ?_ ?_); (· assumption); conv => whnf)
        | ((with_reducible refine forceL_fv (by assumption) ?_); conv => whnf)
        | ((with_reducible refine forceL_rfv (by assumption) ?_); conv => whnf)
        | ((with_reducible refine forceNm_of ?_); conv => whnf)
        | ((with_reducible refine needm_of (fv_lenL (by assumption) (by assumption)) ?_); conv => whnf)
        | ((with_reducible refine optm_var (fv_strL (by assumption) (by assumption)) (fun s hs => ?_)); conv => whnf)
        | ((with_reducible refine forceA_of ?_); conv => whnf)
        | ((with_reducible refine forceL_pl (by assumption) ?_); conv => whnf)
        | ((with_reducible refine forceL_rpl (by assumption) ?_); conv => whnf)
        | ((with_reducible refine fltx_of (fun r hr => ?_)); conv => whnf)
        | ((refine ext_bits (by rfl) bits_n bits_f ?_); conv => whnf)
        | ((refine ext_from (by rfl) from_n from_f ?_); conv => whnf)
        | fail)
      exact keepOf (v₀ := .a (.bool true)) [.cells cs 82 mk, .cells [.slc 0 0 n n] 79 false] [0, 1] (congrArg (fun b => V.a (.bool b)) c2) ⟨ren_pl hp _ _ _, rfl, trivial⟩ (by simp [nodupb, baseb, Ob.okb, frmOk, V.okb, A.okb, hp.2] <;> decide) (hK2 (i - 1).toNat (by omega) (by omega))
    · have c2 : decide (i ≤ (n : Int)) = false := decide_eq_false h2
      conv => whnf
      repeat' (first
        | ((with_reducible refine regx_of ?_ ?_); (· decide +kernel); conv => whnf)
        | ((with_reducible refine growx_pre ?_ ?_); (· exact ⟨_, rfl⟩); conv => whnf)
        | ((with_reducible refine needm_of ?_ ?_); (· first | assumption | exact decide_eq_true (by omega) | exact mkOK_of (by decide) | decide +kernel | (refine decide_eq_true ?_; simp (disch := omega) only [i64w]; omega)); conv => whnf)
        | ((with_reducible refine condm_pos ?_ ?_); (· assumption); conv => whnf)
        | ((with_reducible refine condm_neg ?_ ?_); (· assumption); conv => whnf)
        | ((with_reducible refine forceL_fv (by assumption) ?_); conv => whnf)
        | ((with_reducible refine forceL_rfv (by assumption) ?_); conv => whnf)
        | ((with_reducible refine forceNm_of ?_); conv => whnf)
        | ((with_reducible refine needm_of (fv_lenL (by assumption) (by assumption)) ?_); conv => whnf)
        | ((with_reducible refine optm_var (fv_strL (by assumption) (by assumption)) (fun s hs => ?_)); conv => whnf)
        | ((with_reducible refine forceA_of ?_); conv => whnf)
        | ((with_reducible refine forceL_pl (by assumption) ?_); conv => whnf)
        | ((with_reducible refine forceL_rpl (by assumption) ?_); conv => whnf)
        | ((with_reducible refine fltx_of (fun r hr => ?_)); conv => whnf)
        | ((refine ext_bits (by rfl) bits_n bits_f ?_); conv => whnf)
        | ((refine ext_from (by rfl) from_n from_f ?_); conv => whnf)
        | fail)
      exact keepOf (v₀ := .a (.bool false)) [.cells cs 82 mk, .cells [.slc 0 0 n n] 79 false] [0, 1] (congrArg (fun b => V.a (.bool b)) c2) ⟨ren_pl hp _ _ _, rfl, trivial⟩ (by simp [nodupb, baseb, Ob.okb, frmOk, V.okb, A.okb, hp.2] <;> decide) (hK1 (by omega))
  · have c1 : decide (i ≥ 1) = false := decide_eq_false h1
    conv => whnf
    repeat' (first
      | ((with_reducible refine regx_of ?_ ?_); (· decide +kernel); conv => whnf)
      | ((with_reducible refine growx_pre ?_ ?_); (· exact ⟨_, rfl⟩); conv => whnf)
      | ((with_reducible refine needm_of ?_ ?_); (· first | assumption | exact decide_eq_true (by omega) | exact mkOK_of (by decide) | decide +kernel | (refine decide_eq_true ?_; simp (disch := omega) only [i64w]; omega)); conv => whnf)
      | ((with_reducible refine condm_pos ?_ ?_); (· assumption); conv => whnf)
      | ((with_reducible refine condm_neg ?_ ?_); (· assumption); conv => whnf)
      | ((with_reducible refine forceL_fv (by assumption) ?_); conv => whnf)
      | ((with_reducible refine forceL_rfv (by assumption) ?_); conv => whnf)
      | ((with_reducible refine forceNm_of ?_); conv => whnf)
      | ((with_reducible refine needm_of (fv_lenL (by assumption) (by assumption)) ?_); conv => whnf)
      | ((with_reducible refine optm_var (fv_strL (by assumption) (by assumption)) (fun s hs => ?_)); conv => whnf)
      | ((with_reducible refine forceA_of ?_); conv => whnf)
      | ((with_reducible refine forceL_pl (by assumption) ?_); conv => whnf)
      | ((with_reducible refine forceL_rpl (by assumption) ?_); conv => whnf)
      | ((with_reducible refine fltx_of (fun r hr => ?_)); conv => whnf)
      | ((refine ext_bits (by rfl) bits_n bits_f ?_); conv => whnf)
      | ((refine ext_from (by rfl) from_n from_f ?_); conv => whnf)
      | fail)
    exact keepOf (v₀ := .a (.bool false)) [.cells cs 82 mk, .cells [.slc 0 0 n n] 79 false] [0, 1] rfl ⟨ren_pl hp _ _ _, rfl, trivial⟩ (by simp [nodupb, baseb, Ob.okb, frmOk, V.okb, A.okb, hp.2] <;> decide) (hK1 (by omega))
set_option maxHeartbeats 400000 in
theorem trip47 (P : List Pt) (cs : List A) (n : Nat) (mk : Bool) (hcs : cs = prow P) (hn : n = P.length) (hn5 : n ≤ 5) (i : Int) {K : V → Hp → Prop}
    (hK1 : ¬ (1 ≤ i ∧ i ≤ n) → K (.t [.a (.flt .f64 0), .a (.flt .f64 0)]) [.cells cs 82 mk, .cells [.slc 0 0 n n] 79 false])
    (hK2 : ∀ k x, P[k]? = some x → i = ((k + 1 : Nat) : Int) → K (.t [.a (.flt .f64 x.mean), .a (.flt .f64 x.stray)]) [.cells cs 82 mk, .cells [.slc 0 0 n n] 79 false]) :
    Go.Eng.Fn Try.prog ro 47 [.a (.ptr 1 0), .a (.int .i64 i)] [.cells cs 82 mk, .cells [.slc 0 0 n n] 79 false] K := by
  have hp := Pl.prow hcs
  refine Go.Eng.Fn.weak ?_
  refine Go.Eng.Fn.of 2 QT.h47 rfl Try.func47 rfl (Nat.le_of_ble_eq_true rfl) ?_
  conv => whnf
  repeat' (first
    | ((with_reducible refine regx_of ?_ ?_); (· decide +kernel); conv => whnf)
    | ((with_reducible refine growx_pre ?_ ?_); (· exact ⟨_, rfl⟩); conv => whnf)
    | ((with_reducible refine needm_of ?_ ?_); (· first | assumption | exact decide_eq_true (by omega) | exact mkOK_of (by decide) | decide +kernel | (refine decide_eq_true ?_; simp (disch := omega) only [i64w]; omega)); conv => whnf)
    | ((with_reducible refine condm_pos ?_ ?_); (· assumption); conv => whnf)
    | ((with_reducible refine condm_neg ?_ ?_); (· assumption); conv => whnf)
    | ((with_reducible refine forceL_fv (by assumption) ?_); conv => whnf)
    | ((with_reducible refine forceL_rfv (by assumption) ?_); conv => whnf)
    | ((with_reducible refine forceNm_of ?_); conv => whnf)
    | ((with_reducible refine needm_of (fv_lenL (by assumption) (by assumption)) ?_); conv => whnf)
    | ((with_reducible refine optm_var (fv_strL (by assumption) (by assumption)) (fun s hs => ?_)); conv => whnf)
    | ((with_reducible refine forceA_of ?_); conv => whnf)
    | ((with_reducible refine forceL_pl (by assumption) ?_); conv => whnf)
    | ((with_reducible refine forceL_rpl (by assumption) ?_); conv => whnf)
    | ((with_reducible refine fltx_of (fun r hr => ?_)); conv => whnf)
    | ((refine ext_bits (by rfl) bits_n bits_f ?_); conv => whnf)
    | ((refine ext_from (by rfl) from_n from_f ?_); conv => whnf)
    | fail)
  refine Go.Eng.Fn.frame [0, 1] (by rfl) (by exact ⟨ren_pl hp _ _ _, rfl, trivial⟩) (by simp [nodupb, V.okb, A.okb, Ob.okb, hp.2] <;> decide) (there55 cs hp n mk i (fun h => ?_) (fun k hk e => ?_))
  ·
    conv => whnf
    repeat' (first
      | ((with_reducible refine regx_of ?_ ?_); (· decide +kernel); conv => whnf)
      | ((with_reducible refine growx_pre ?_ ?_); (· exact ⟨_, rfl⟩); conv => whnf)
      | ((with_reducible refine needm_of ?_ ?_); (· first | assumption | exact decide_eq_true (by omega) | exact mkOK_of (by decide) | decide +kernel | (refine decide_eq_true ?_; simp (disch := omega) only [i64w]; omega)); conv => whnf)
      | ((with_reducible refine condm_pos ?_ ?_); (· assumption); conv => whnf)
      | ((with_reducible refine condm_neg ?_ ?_); (· assumption); conv => whnf)
      | ((with_reducible refine forceL_fv (by assumption) ?_); conv => whnf)
      | ((with_reducible refine forceL_rfv (by assumption) ?_); conv => whnf)
      | ((with_reducible refine forceNm_of ?_); conv => whnf)
      | ((with_reducible refine needm_of (fv_lenL (by assumption) (by assumption)) ?_); conv => whnf)
      | ((with_reducible refine optm_var (fv_strL (by assumption) (by assumption)) (fun s hs => ?_)); conv => whnf)
      | ((with_reducible refine forceA_of ?_); conv => whnf)
      | ((with_reducible refine forceL_pl (by assumption) ?_); conv => whnf)
      | ((with_reducible refine forceL_rpl (by assumption) ?_); conv => whnf)
      | ((with_reducible refine fltx_of (fun r hr => ?_)); conv => whnf)
      | ((refine ext_bits (by rfl) bits_n bits_f ?_); conv => whnf)
      | ((refine ext_from (by rfl) from_n from_f ?_); conv => whnf)
      | fail)
    exact keepOf (v₀ := .t [.a (.flt .f64 0), .a (.flt .f64 0)]) [.cells cs 82 mk, .cells [.slc 0 0 n n] 79 false] [0, 1] rfl ⟨ren_pl hp _ _ _, rfl, trivial⟩ (by simp [nodupb, baseb, Ob.okb, frmOk, V.okb, E.okb, A.okb, hp.2] <;> decide) (hK1 h)
  ·
    subst e
    obtain ⟨x, hx⟩ : ∃ x, P[k]? = some x := ⟨_, List.getElem?_eq_getElem (by omega)⟩
    have e1 : IntKind.i64.wrap (((k + 1 : Nat) : Int) - 1) = (k : Int) := by rw [i64w (by omega) (by omega)]; omega
    have g0 : cs[0 + (k : Int).toNat * Try.prog.types[82].size + 0]? = some (.bool x.heard) := prow_get hcs hx (k := 0) (by rw [s82]; omega) rfl
    have g1 : cs[0 + (k : Int).toNat * Try.prog.types[82].size + 1]? = some (.bool x.ended) := prow_get hcs hx (k := 1) (by rw [s82]; omega) rfl
    have g2 : cs[0 + (k : Int).toNat * Try.prog.types[82].size + 2]? = some (.flt .f64 x.mean) := prow_get hcs hx (k := 2) (by rw [s82]; omega) rfl
    have g3 : cs[0 + (k : Int).toNat * Try.prog.types[82].size + 3]? = some (.flt .f64 x.stray) := prow_get hcs hx (k := 3) (by rw [s82]; omega) rfl
    have g4 : cs[0 + (k : Int).toNat * Try.prog.types[82].size + 4]? = some (.int .i64 x.dbl) := prow_get hcs hx (k := 4) (by rw [s82]; omega) rfl
    have g5 : cs[0 + (k : Int).toNat * Try.prog.types[82].size + 5]? = some (.flt .f64 x.whn) := prow_get hcs hx (k := 5) (by rw [s82]; omega) rfl
    have g6 : cs[0 + (k : Int).toNat * Try.prog.types[82].size + 6]? = some (.flt .f64 x.share) := prow_get hcs hx (k := 6) (by rw [s82]; omega) rfl
    conv => whnf
    repeat' (first
      | rw [e1]
      | ((with_reducible refine regx_of ?_ ?_); (· decide +kernel); conv => whnf)
      | ((with_reducible refine growx_pre ?_ ?_); (· exact ⟨_, rfl⟩); conv => whnf)
      | ((with_reducible refine needm_of ?_ ?_); (· first | assumption | exact decide_eq_true (by omega) | exact mkOK_of (by decide) | decide +kernel | (refine decide_eq_true ?_; simp (disch := omega) only [i64w]; omega)); conv => whnf)
      | ((with_reducible refine condm_pos ?_ ?_); (· assumption); conv => whnf)
      | ((with_reducible refine condm_neg ?_ ?_); (· assumption); conv => whnf)
      | ((with_reducible refine forceL_fv (by assumption) ?_); conv => whnf)
      | ((with_reducible refine forceL_rfv (by assumption) ?_); conv => whnf)
      | ((with_reducible refine forceNm_of ?_); conv => whnf)
      | ((with_reducible refine needm_of (fv_lenL (by assumption) (by assumption)) ?_); conv => whnf)
      | ((with_reducible refine optm_var (fv_strL (by assumption) (by assumption)) (fun s hs => ?_)); conv => whnf)
      | ((with_reducible refine forceA_of ?_); conv => whnf)
      | ((with_reducible refine forceL_pl (by assumption) ?_); conv => whnf)
      | ((with_reducible refine forceL_rpl (by assumption) ?_); conv => whnf)
      | ((with_reducible refine fltx_of (fun r hr => ?_)); conv => whnf)
      | ((refine ext_bits (by rfl) bits_n bits_f ?_); conv => whnf)
      | ((refine ext_from (by rfl) from_n from_f ?_); conv => whnf)
      | ((with_reducible apply optm_of); (· first | exact g0 | exact g1 | exact g2 | exact g3 | exact g4 | exact g5 | exact g6); conv => whnf)
      | fail)
    exact keepOf (v₀ := .t [.a (.flt .f64 x.mean), .a (.flt .f64 x.stray)]) [.cells cs 82 mk, .cells [.slc 0 0 n n] 79 false] [0, 1] rfl ⟨ren_pl hp _ _ _, rfl, trivial⟩ (by simp [nodupb, baseb, Ob.okb, frmOk, V.okb, E.okb, A.okb, hp.2] <;> decide) (hK2 k x hx rfl)
set_option maxHeartbeats 400000 in
theorem failed45 (P : List Pt) (cs : List A) (n : Nat) (mk : Bool) (hcs : cs = prow P) (hn : n = P.length) (hn5 : n ≤ 5) (hd : ∀ p ∈ P, 0 ≤ p.dbl ∧ p.dbl ≤ 10) (i : Int) {K : V → Hp → Prop}
    (hK1 : ¬ (1 ≤ i ∧ i ≤ n) → K (.a (.int .i64 1)) [.cells cs 82 mk, .cells [.slc 0 0 n n] 79 false])
    (hK2 : ∀ k x, P[k]? = some x → i = ((k + 1 : Nat) : Int) → ∀ cs, cs = prow (P.set k { x with dbl := min (x.dbl + 1) 10 }) → K (.a (.int .i64 0)) [.cells cs 82 mk, .cells [.slc 0 0 n n] 79 false]) :
    Go.Eng.Fn Try.prog ro 45 [.a (.ptr 1 0), .a (.int .i64 i)] [.cells cs 82 mk, .cells [.slc 0 0 n n] 79 false] K := by
  have hp := Pl.prow hcs
  refine Go.Eng.Fn.weak ?_
  refine Go.Eng.Fn.of 2 (gOf []) rfl Try.func45 rfl (Nat.le_of_ble_eq_true rfl) ?_
  conv => whnf
  repeat' (first
    | ((with_reducible refine regx_of ?_ ?_); (· decide +kernel); conv => whnf)
    | ((with_reducible refine growx_pre ?_ ?_); (· exact ⟨_, rfl⟩); conv => whnf)
    | ((with_reducible refine needm_of ?_ ?_); (· first | assumption | exact decide_eq_true (by omega) | exact mkOK_of (by decide) | decide +kernel | (refine decide_eq_true ?_; simp (disch := omega) only [i64w]; omega)); conv => whnf)
    | ((with_reducible refine condm_pos ?_ ?_); (· assumption); conv => whnf)
    | ((with_reducible refine condm_neg ?_ ?_); (· assumption); conv => whnf)
    | ((with_reducible refine forceL_fv (by assumption) ?_); conv => whnf)
    | ((with_reducible refine forceL_rfv (by assumption) ?_); conv => whnf)
    | ((with_reducible refine forceNm_of ?_); conv => whnf)
    | ((with_reducible refine needm_of (fv_lenL (by assumption) (by assumption)) ?_); conv => whnf)
    | ((with_reducible refine optm_var (fv_strL (by assumption) (by assumption)) (fun s hs => ?_)); conv => whnf)
    | ((with_reducible refine forceA_of ?_); conv => whnf)
    | ((with_reducible refine forceL_pl (by assumption) ?_); conv => whnf)
    | ((with_reducible refine forceL_rpl (by assumption) ?_); conv => whnf)
    | ((with_reducible refine fltx_of (fun r hr => ?_)); conv => whnf)
    | ((refine ext_bits (by rfl) bits_n bits_f ?_); conv => whnf)
    | ((refine ext_from (by rfl) from_n from_f ?_); conv => whnf)
    | fail)
  refine Go.Eng.Fn.frame [0, 1] (by rfl) (by exact ⟨ren_pl hp _ _ _, rfl, trivial⟩) (by simp [nodupb, V.okb, A.okb, Ob.okb, hp.2] <;> decide) (there55 cs hp n mk i (fun h => ?_) (fun k hk e => ?_))
  ·
    conv => whnf
    repeat' (first
      | ((with_reducible refine regx_of ?_ ?_); (· decide +kernel); conv => whnf)
      | ((with_reducible refine growx_pre ?_ ?_); (· exact ⟨_, rfl⟩); conv => whnf)
      | ((with_reducible refine needm_of ?_ ?_); (· first | assumption | exact decide_eq_true (by omega) | exact mkOK_of (by decide) | decide +kernel | (refine decide_eq_true ?_; simp (disch := omega) only [i64w]; omega)); conv => whnf)
      | ((with_reducible refine condm_pos ?_ ?_); (· assumption); conv => whnf)
      | ((with_reducible refine condm_neg ?_ ?_); (· assumption); conv => whnf)
      | ((with_reducible refine forceL_fv (by assumption) ?_); conv => whnf)
      | ((with_reducible refine forceL_rfv (by assumption) ?_); conv => whnf)
      | ((with_reducible refine forceNm_of ?_); conv => whnf)
      | ((with_reducible refine needm_of (fv_lenL (by assumption) (by assumption)) ?_); conv => whnf)
      | ((with_reducible refine optm_var (fv_strL (by assumption) (by assumption)) (fun s hs => ?_)); conv => whnf)
      | ((with_reducible refine forceA_of ?_); conv => whnf)
      | ((with_reducible refine forceL_pl (by assumption) ?_); conv => whnf)
      | ((with_reducible refine forceL_rpl (by assumption) ?_); conv => whnf)
      | ((with_reducible refine fltx_of (fun r hr => ?_)); conv => whnf)
      | ((refine ext_bits (by rfl) bits_n bits_f ?_); conv => whnf)
      | ((refine ext_from (by rfl) from_n from_f ?_); conv => whnf)
      | fail)
    exact keepOf (v₀ := .a (.int .i64 1)) [.cells cs 82 mk, .cells [.slc 0 0 n n] 79 false] [0, 1] rfl ⟨ren_pl hp _ _ _, rfl, trivial⟩ (by simp [nodupb, baseb, Ob.okb, frmOk, V.okb, A.okb, hp.2] <;> decide) (hK1 h)
  ·
    subst e
    obtain ⟨x, hx⟩ : ∃ x, P[k]? = some x := ⟨_, List.getElem?_eq_getElem (by omega)⟩
    have e1 : IntKind.i64.wrap (((k + 1 : Nat) : Int) - 1) = (k : Int) := by rw [i64w (by omega) (by omega)]; omega
    have g0 : cs[0 + (k : Int).toNat * Try.prog.types[82].size + 0]? = some (.bool x.heard) := prow_get hcs hx (k := 0) (by rw [s82]; omega) rfl
    have g1 : cs[0 + (k : Int).toNat * Try.prog.types[82].size + 1]? = some (.bool x.ended) := prow_get hcs hx (k := 1) (by rw [s82]; omega) rfl
    have g2 : cs[0 + (k : Int).toNat * Try.prog.types[82].size + 2]? = some (.flt .f64 x.mean) := prow_get hcs hx (k := 2) (by rw [s82]; omega) rfl
    have g3 : cs[0 + (k : Int).toNat * Try.prog.types[82].size + 3]? = some (.flt .f64 x.stray) := prow_get hcs hx (k := 3) (by rw [s82]; omega) rfl
    have g4 : cs[0 + (k : Int).toNat * Try.prog.types[82].size + 4]? = some (.int .i64 x.dbl) := prow_get hcs hx (k := 4) (by rw [s82]; omega) rfl
    have g5 : cs[0 + (k : Int).toNat * Try.prog.types[82].size + 5]? = some (.flt .f64 x.whn) := prow_get hcs hx (k := 5) (by rw [s82]; omega) rfl
    have g6 : cs[0 + (k : Int).toNat * Try.prog.types[82].size + 6]? = some (.flt .f64 x.share) := prow_get hcs hx (k := 6) (by rw [s82]; omega) rfl
    have hx0 := hd x (List.mem_of_getElem? hx)
    have hcl : cs.length = P.length * 7 := by rw [hcs, prow_length]
    have hko : 0 + (k : Int).toNat * Try.prog.types[82].size = k * 7 := by rw [s82]; omega
    by_cases h10 : x.dbl < 10
    · have c10 : decide (x.dbl < 10) = true := decide_eq_true h10
      have ew : IntKind.i64.wrap (x.dbl + 1) = min (x.dbl + 1) 10 := by rw [i64w (by omega) (by omega)]; omega
      conv => whnf
      repeat' (first
        | rw [e1]
        | ((with_reducible refine regx_of ?_ ?_); (· decide +kernel); conv => whnf)
        | ((with_reducible refine growx_pre ?_ ?_); (· exact ⟨_, rfl⟩); conv => whnf)
        | ((with_reducible refine needm_of ?_ ?_); (· first | assumption | exact decide_eq_true (by omega) | exact mkOK_of (by decide) | decide +kernel | (refine decide_eq_true ?_; simp (disch := omega) only [i64w]; omega)); conv => whnf)
        | ((with_reducible refine condm_pos ?_ ?_); (· assumption); conv => whnf)
        | ((with_reducible refine condm_neg ?_ ?_); (· assumption); conv => whnf)
        | ((with_reducible refine forceL_fv (by assumption) ?_); conv => whnf)
        | ((with_reducible refine forceL_rfv (by assumption) ?_); conv => whnf)
        | ((with_reducible refine forceNm_of ?_); conv => whnf)
        | ((with_reducible refine needm_of (fv_lenL (by assumption) (by assumption)) ?_); conv => whnf)
        | ((with_reducible refine optm_var (fv_strL (by assumption) (by assumption)) (fun s hs => ?_)); conv => whnf)
        | ((with_reducible refine forceA_of ?_); conv => whnf)
        | ((with_reducible refine forceL_pl (by assumption) ?_); conv => whnf)
        | ((with_reducible refine forceL_rpl (by assumption) ?_); conv => whnf)
        | ((with_reducible refine fltx_of (fun r hr => ?_)); conv => whnf)
        | ((refine ext_bits (by rfl) bits_n bits_f ?_); conv => whnf)
        | ((refine ext_from (by rfl) from_n from_f ?_); conv => whnf)
        | ((with_reducible apply optm_of); (· first | exact g0 | exact g1 | exact g2 | exact g3 | exact g4 | exact g5 | exact g6); conv => whnf)
        | fail)
      rw [ew]
      try rw [e1]
      refine needm_of (Bool.and_eq_true_iff.2 ⟨rfl, decide_eq_true (by show _ + 4 + 1 ≤ _; rw [hko]; omega)⟩) ?_
      conv => whnf
      refine forceL_var (prow_set (x' := { x with dbl := min (x.dbl + 1) 10 }) hcs hx (k := 4) (by show _ + 4 = _; rw [hko]) (by decide) rfl) (fun cs1 hcs1 => ?_)
      have hp1 := Pl.prow hcs1
      conv => whnf
      repeat' (first
        | rw [e1]
        | ((with_reducible refine regx_of ?_ ?_); (· decide +kernel); conv => whnf)
        | ((with_reducible refine growx_pre ?_ ?_); (· exact ⟨_, rfl⟩); conv => whnf)
        | ((with_reducible refine needm_of ?_ ?_); (· first | assumption | exact decide_eq_true (by omega) | exact mkOK_of (by decide) | decide +kernel | (refine decide_eq_true ?_; simp (disch := omega) only [i64w]; omega)); conv => whnf)
        | ((with_reducible refine condm_pos ?_ ?_); (· assumption); conv => whnf)
        | ((with_reducible refine condm_neg ?_ ?_); (· assumption); conv => whnf)
        | ((with_reducible refine forceL_fv (by assumption) ?_); conv => whnf)
        | ((with_reducible refine forceL_rfv (by assumption) ?_); conv => whnf)
        | ((with_reducible refine forceNm_of ?_); conv => whnf)
        | ((with_reducible refine needm_of (fv_lenL (by assumption) (by assumption)) ?_); conv => whnf)
        | ((with_reducible refine optm_var (fv_strL (by assumption) (by assumption)) (fun s hs => ?_)); conv => whnf)
        | ((with_reducible refine forceA_of ?_); conv => whnf)
        | ((with_reducible refine forceL_pl (by assumption) ?_); conv => whnf)
        | ((with_reducible refine forceL_rpl (by assumption) ?_); conv => whnf)
        | ((with_reducible refine fltx_of (fun r hr => ?_)); conv => whnf)
        | ((refine ext_bits (by rfl) bits_n bits_f ?_); conv => whnf)
        | ((refine ext_from (by rfl) from_n from_f ?_); conv => whnf)
        | ((with_reducible apply optm_of); (· first | exact g0 | exact g1 | exact g2 | exact g3 | exact g4 | exact g5 | exact g6); conv => whnf)
        | fail)
      exact keepOf (v₀ := .a (.int .i64 0)) [.cells cs1 82 mk, .cells [.slc 0 0 n n] 79 false] [0, 1] rfl ⟨ren_pl hp1 _ _ _, rfl, trivial⟩ (by simp [nodupb, baseb, Ob.okb, frmOk, V.okb, A.okb, hp1.2] <;> decide) (hK2 k x hx rfl cs1 hcs1)
    · have c10 : decide (x.dbl < 10) = false := decide_eq_false h10
      have e10 : { x with dbl := min (x.dbl + 1) 10 } = x := by
        have : min (x.dbl + 1) 10 = x.dbl := by omega
        rw [this]
      have h2 := hK2 k x hx rfl cs (by rw [e10, hcs]; congr 1; obtain ⟨hk', e'⟩ := List.getElem?_eq_some_iff.1 hx; rw [← e', List.set_getElem_self])
      conv => whnf
      repeat' (first
        | rw [e1]
        | ((with_reducible refine regx_of ?_ ?_); (· decide +kernel); conv => whnf)
        | ((with_reducible refine growx_pre ?_ ?_); (· exact ⟨_, rfl⟩); conv => whnf)
        | ((with_reducible refine needm_of ?_ ?_); (· first | assumption | exact decide_eq_true (by omega) | exact mkOK_of (by decide) | decide +kernel | (refine decide_eq_true ?_; simp (disch := omega) only [i64w]; omega)); conv => whnf)
        | ((with_reducible refine condm_pos ?_ ?_); (· assumption); conv => whnf)
        | ((with_reducible refine condm_neg ?_ ?_); (· assumption); conv => whnf)
        | ((with_reducible refine forceL_fv (by assumption) ?_); conv => whnf)
        | ((with_reducible refine forceL_rfv (by assumption) ?_); conv => whnf)
        | ((with_reducible refine forceNm_of ?_); conv => whnf)
        | ((with_reducible refine needm_of (fv_lenL (by assumption) (by assumption)) ?_); conv => whnf)
        | ((with_reducible refine optm_var (fv_strL (by assumption) (by assumption)) (fun s hs => ?_)); conv => whnf)
        | ((with_reducible refine forceA_of ?_); conv => whnf)
        | ((with_reducible refine forceL_pl (by assumption) ?_); conv => whnf)
        | ((with_reducible refine forceL_rpl (by assumption) ?_); conv => whnf)
        | ((with_reducible refine fltx_of (fun r hr => ?_)); conv => whnf)
        | ((refine ext_bits (by rfl) bits_n bits_f ?_); conv => whnf)
        | ((refine ext_from (by rfl) from_n from_f ?_); conv => whnf)
        | ((with_reducible apply optm_of); (· first | exact g0 | exact g1 | exact g2 | exact g3 | exact g4 | exact g5 | exact g6); conv => whnf)
        | fail)
      exact keepOf (v₀ := .a (.int .i64 0)) [.cells cs 82 mk, .cells [.slc 0 0 n n] 79 false] [0, 1] rfl ⟨ren_pl hp _ _ _, rfl, trivial⟩ (by simp [nodupb, baseb, Ob.okb, frmOk, V.okb, A.okb, hp.2] <;> decide) h2
set_option maxHeartbeats 400000 in
theorem ended46 (P : List Pt) (cs : List A) (n : Nat) (mk : Bool) (hcs : cs = prow P) (hn : n = P.length) (hn5 : n ≤ 5) (i : Int) (now : Nat) (d ks : Int) {K : V → Hp → Prop}
    (hK1 : ¬ (1 ≤ i ∧ i ≤ n) → K (.a (.int .i64 1)) [.cells cs 82 mk, .cells [.slc 0 0 n n] 79 false])
    (hK2 : ∀ k x, P[k]? = some x → i = ((k + 1 : Nat) : Int) → (fin now && (decide (0 ≤ d) && decide (d ≤ ks))) = false → K (.a (.int .i64 280)) [.cells cs 82 mk, .cells [.slc 0 0 n n] 79 false])
    (hK3 : ∀ k x, P[k]? = some x → i = ((k + 1 : Nat) : Int) → (fin now && (decide (0 ≤ d) && decide (d ≤ ks))) = true → ∀ r, Ans (FloatKind.f64.format.div (FloatKind.f64.nearest d) (FloatKind.f64.nearest ks)) r → ∀ cs, cs = prow (P.set k { x with ended := true, whn := now, share := r }) → K (.a (.int .i64 0)) [.cells cs 82 mk, .cells [.slc 0 0 n n] 79 false]) :
    Go.Eng.Fn Try.prog ro 46 [.a (.ptr 1 0), .a (.int .i64 i), .a (.flt .f64 now), .a (.int .i64 d), .a (.int .i64 ks)] [.cells cs 82 mk, .cells [.slc 0 0 n n] 79 false] K := by
  have hp := Pl.prow hcs
  refine Go.Eng.Fn.weak ?_
  refine Go.Eng.Fn.of 2 QT.h46 rfl Try.func46 rfl (Nat.le_of_ble_eq_true rfl) ?_
  conv => whnf
  repeat' (first
    | ((with_reducible refine regx_of ?_ ?_); (· decide +kernel); conv => whnf)
    | ((with_reducible refine growx_pre ?_ ?_); (· exact ⟨_, rfl⟩); conv => whnf)
    | ((with_reducible refine needm_of ?_ ?_); (· first | assumption | exact decide_eq_true (by omega) | exact mkOK_of (by decide) | decide +kernel | (refine decide_eq_true ?_; simp (disch := omega) only [i64w]; omega)); conv => whnf)
    | ((with_reducible refine condm_pos ?_ ?_); (· assumption); conv => whnf)
    | ((with_reducible refine condm_neg ?_ ?_); (· assumption); conv => whnf)
    | ((with_reducible refine forceL_fv (by assumption) ?_); conv => whnf)
    | ((with_reducible refine forceL_rfv (by assumption) ?_); conv => whnf)
    | ((with_reducible refine forceNm_of ?_); conv => whnf)
    | ((with_reducible refine needm_of (fv_lenL (by assumption) (by assumption)) ?_); conv => whnf)
    | ((with_reducible refine optm_var (fv_strL (by assumption) (by assumption)) (fun s hs => ?_)); conv => whnf)
    | ((with_reducible refine forceA_of ?_); conv => whnf)
    | ((with_reducible refine forceL_pl (by assumption) ?_); conv => whnf)
    | ((with_reducible refine forceL_rpl (by assumption) ?_); conv => whnf)
    | ((with_reducible refine fltx_of (fun r hr => ?_)); conv => whnf)
    | ((refine ext_bits (by rfl) bits_n bits_f ?_); conv => whnf)
    | ((refine ext_from (by rfl) from_n from_f ?_); conv => whnf)
    | fail)
  refine Go.Eng.Fn.frame [0, 1] (by rfl) (by exact ⟨ren_pl hp _ _ _, rfl, trivial⟩) (by simp [nodupb, V.okb, A.okb, Ob.okb, hp.2] <;> decide) (there55 cs hp n mk i (fun h => ?_) (fun k hk e => ?_))
  ·
    conv => whnf
    repeat' (first
      | ((with_reducible refine regx_of ?_ ?_); (· decide +kernel); conv => whnf)
      | ((with_reducible refine growx_pre ?_ ?_); (· exact ⟨_, rfl⟩); conv => whnf)
      | ((with_reducible refine needm_of ?_ ?_); (· first | assumption | exact decide_eq_true (by omega) | exact mkOK_of (by decide) | decide +kernel | (refine decide_eq_true ?_; simp (disch := omega) only [i64w]; omega)); conv => whnf)
      | ((with_reducible refine condm_pos ?_ ?_); (· assumption); conv => whnf)
      | ((with_reducible refine condm_neg ?_ ?_); (· assumption); conv => whnf)
      | ((with_reducible refine forceL_fv (by assumption) ?_); conv => whnf)
      | ((with_reducible refine forceL_rfv (by assumption) ?_); conv => whnf)
      | ((with_reducible refine forceNm_of ?_); conv => whnf)
      | ((with_reducible refine needm_of (fv_lenL (by assumption) (by assumption)) ?_); conv => whnf)
      | ((with_reducible refine optm_var (fv_strL (by assumption) (by assumption)) (fun s hs => ?_)); conv => whnf)
      | ((with_reducible refine forceA_of ?_); conv => whnf)
      | ((with_reducible refine forceL_pl (by assumption) ?_); conv => whnf)
      | ((with_reducible refine forceL_rpl (by assumption) ?_); conv => whnf)
      | ((with_reducible refine fltx_of (fun r hr => ?_)); conv => whnf)
      | ((refine ext_bits (by rfl) bits_n bits_f ?_); conv => whnf)
      | ((refine ext_from (by rfl) from_n from_f ?_); conv => whnf)
      | fail)
    exact keepOf (v₀ := .a (.int .i64 1)) [.cells cs 82 mk, .cells [.slc 0 0 n n] 79 false] [0, 1] rfl ⟨ren_pl hp _ _ _, rfl, trivial⟩ (by simp [nodupb, baseb, Ob.okb, frmOk, V.okb, A.okb, hp.2] <;> decide) (hK1 h)
  ·
    subst e
    obtain ⟨x, hx⟩ : ∃ x, P[k]? = some x := ⟨_, List.getElem?_eq_getElem (by omega)⟩
    have e1 : IntKind.i64.wrap (((k + 1 : Nat) : Int) - 1) = (k : Int) := by rw [i64w (by omega) (by omega)]; omega
    have g0 : cs[0 + (k : Int).toNat * Try.prog.types[82].size + 0]? = some (.bool x.heard) := prow_get hcs hx (k := 0) (by rw [s82]; omega) rfl
    have g1 : cs[0 + (k : Int).toNat * Try.prog.types[82].size + 1]? = some (.bool x.ended) := prow_get hcs hx (k := 1) (by rw [s82]; omega) rfl
    have g2 : cs[0 + (k : Int).toNat * Try.prog.types[82].size + 2]? = some (.flt .f64 x.mean) := prow_get hcs hx (k := 2) (by rw [s82]; omega) rfl
    have g3 : cs[0 + (k : Int).toNat * Try.prog.types[82].size + 3]? = some (.flt .f64 x.stray) := prow_get hcs hx (k := 3) (by rw [s82]; omega) rfl
    have g4 : cs[0 + (k : Int).toNat * Try.prog.types[82].size + 4]? = some (.int .i64 x.dbl) := prow_get hcs hx (k := 4) (by rw [s82]; omega) rfl
    have g5 : cs[0 + (k : Int).toNat * Try.prog.types[82].size + 5]? = some (.flt .f64 x.whn) := prow_get hcs hx (k := 5) (by rw [s82]; omega) rfl
    have g6 : cs[0 + (k : Int).toNat * Try.prog.types[82].size + 6]? = some (.flt .f64 x.share) := prow_get hcs hx (k := 6) (by rw [s82]; omega) rfl
    have hcl : cs.length = P.length * 7 := by rw [hcs, prow_length]
    have hko : 0 + (k : Int).toNat * Try.prog.types[82].size = k * 7 := by rw [s82]; omega
    conv => whnf
    repeat' (first
      | ((with_reducible refine regx_of ?_ ?_); (· decide +kernel); conv => whnf)
      | ((with_reducible refine growx_pre ?_ ?_); (· exact ⟨_, rfl⟩); conv => whnf)
      | ((with_reducible refine needm_of ?_ ?_); (· first | assumption | exact decide_eq_true (by omega) | exact mkOK_of (by decide) | decide +kernel | (refine decide_eq_true ?_; simp (disch := omega) only [i64w]; omega)); conv => whnf)
      | ((with_reducible refine condm_pos ?_ ?_); (· assumption); conv => whnf)
      | ((with_reducible refine condm_neg ?_ ?_); (· assumption); conv => whnf)
      | ((with_reducible refine forceL_fv (by assumption) ?_); conv => whnf)
      | ((with_reducible refine forceL_rfv (by assumption) ?_); conv => whnf)
      | ((with_reducible refine forceNm_of ?_); conv => whnf)
      | ((with_reducible refine needm_of (fv_lenL (by assumption) (by assumption)) ?_); conv => whnf)
      | ((with_reducible refine optm_var (fv_strL (by assumption) (by assumption)) (fun s hs => ?_)); conv => whnf)
      | ((with_reducible refine forceA_of ?_); conv => whnf)
      | ((with_reducible refine forceL_pl (by assumption) ?_); conv => whnf)
      | ((with_reducible refine forceL_rpl (by assumption) ?_); conv => whnf)
      | ((with_reducible refine fltx_of (fun r hr => ?_)); conv => whnf)
      | ((refine ext_bits (by rfl) bits_n bits_f ?_); conv => whnf)
      | ((refine ext_from (by rfl) from_n from_f ?_); conv => whnf)
      | fail)
    refine Go.Eng.Fn.frame [] (by rfl) (by exact trivial) (by rfl) (finite56 now ?_)
    cases hf : fin now with
    | false =>
      conv => whnf
      repeat' (first
        | ((with_reducible refine regx_of ?_ ?_); (· decide +kernel); conv => whnf)
        | ((with_reducible refine growx_pre ?_ ?_); (· exact ⟨_, rfl⟩); conv => whnf)
        | ((with_reducible refine needm_of ?_ ?_); (· first | assumption | exact decide_eq_true (by omega) | exact mkOK_of (by decide) | decide +kernel | (refine decide_eq_true ?_; simp (disch := omega) only [i64w]; omega)); conv => whnf)
        | ((with_reducible refine condm_pos ?_ ?_); (· assumption); conv => whnf)
        | ((with_reducible refine condm_neg ?_ ?_); (· assumption); conv => whnf)
        | ((with_reducible refine forceL_fv (by assumption) ?_); conv => whnf)
        | ((with_reducible refine forceL_rfv (by assumption) ?_); conv => whnf)
        | ((with_reducible refine forceNm_of ?_); conv => whnf)
        | ((with_reducible refine needm_of (fv_lenL (by assumption) (by assumption)) ?_); conv => whnf)
        | ((with_reducible refine optm_var (fv_strL (by assumption) (by assumption)) (fun s hs => ?_)); conv => whnf)
        | ((with_reducible refine forceA_of ?_); conv => whnf)
        | ((with_reducible refine forceL_pl (by assumption) ?_); conv => whnf)
        | ((with_reducible refine forceL_rpl (by assumption) ?_); conv => whnf)
        | ((with_reducible refine fltx_of (fun r hr => ?_)); conv => whnf)
        | ((refine ext_bits (by rfl) bits_n bits_f ?_); conv => whnf)
        | ((refine ext_from (by rfl) from_n from_f ?_); conv => whnf)
        | fail)
      exact keepOf (v₀ := .a (.int .i64 280)) [.cells cs 82 mk, .cells [.slc 0 0 n n] 79 false] [0, 1] rfl ⟨ren_pl hp _ _ _, rfl, trivial⟩ (by simp [nodupb, baseb, Ob.okb, frmOk, V.okb, A.okb, hp.2] <;> decide) (hK2 k x hx rfl (by rw [hf]; rfl))
    | true =>
      by_cases h1 : d < 0
      · have c1 : decide (d < 0) = true := decide_eq_true h1
        conv => whnf
        repeat' (first
          | ((with_reducible refine regx_of ?_ ?_); (· decide +kernel); conv => whnf)
          | ((with_reducible refine growx_pre ?_ ?_); (· exact ⟨_, rfl⟩); conv => whnf)
          | ((with_reducible refine needm_of ?_ ?_); (· first | assumption | exact decide_eq_true (by omega) | exact mkOK_of (by decide) | decide +kernel | (refine decide_eq_true ?_; simp (disch := omega) only [i64w]; omega)); conv => whnf)
          | ((with_reducible refine condm_pos ?_ ?_); (· assumption); conv => whnf)
          | ((with_reducible refine condm_neg ?_ ?_); (· assumption); conv => whnf)
          | ((with_reducible refine forceL_fv (by assumption) ?_); conv => whnf)
          | ((with_reducible refine forceL_rfv (by assumption) ?_); conv => whnf)
          | ((with_reducible refine forceNm_of ?_); conv => whnf)
          | ((with_reducible refine needm_of (fv_lenL (by assumption) (by assumption)) ?_); conv => whnf)
          | ((with_reducible refine optm_var (fv_strL (by assumption) (by assumption)) (fun s hs => ?_)); conv => whnf)
          | ((with_reducible refine forceA_of ?_); conv => whnf)
          | ((with_reducible refine forceL_pl (by assumption) ?_); conv => whnf)
          | ((with_reducible refine forceL_rpl (by assumption) ?_); conv => whnf)
          | ((with_reducible refine fltx_of (fun r hr => ?_)); conv => whnf)
          | ((refine ext_bits (by rfl) bits_n bits_f ?_); conv => whnf)
          | ((refine ext_from (by rfl) from_n from_f ?_); conv => whnf)
          | fail)
        exact keepOf (v₀ := .a (.int .i64 280)) [.cells cs 82 mk, .cells [.slc 0 0 n n] 79 false] [0, 1] rfl ⟨ren_pl hp _ _ _, rfl, trivial⟩ (by simp [nodupb, baseb, Ob.okb, frmOk, V.okb, A.okb, hp.2] <;> decide) (hK2 k x hx rfl (by rw [hf, decide_eq_false (show ¬ 0 ≤ d by omega)]; rfl))
      · have c1 : decide (d < 0) = false := decide_eq_false h1
        by_cases h2 : d > ks
        · have c2 : decide (d > ks) = true := decide_eq_true h2
          conv => whnf
          repeat' (first
            | ((with_reducible refine regx_of ?_ ?_); (· decide +kernel); conv => whnf)
            | ((with_reducible refine growx_pre ?_ ?_); (· exact ⟨_, rfl⟩); conv => whnf)
            | ((with_reducible refine needm_of ?_ ?_); (· first | assumption | exact decide_eq_true (by omega) | exact mkOK_of (by decide) | decide +kernel | (refine decide_eq_true ?_; simp (disch := omega) only [i64w]; omega)); conv => whnf)
            | ((with_reducible refine condm_pos ?_ ?_); (· assumption); conv => whnf)
            | ((with_reducible refine condm_neg ?_ ?_); (· assumption); conv => whnf)
            | ((with_reducible refine forceL_fv (by assumption) ?_); conv => whnf)
            | ((with_reducible refine forceL_rfv (by assumption) ?_); conv => whnf)
            | ((with_reducible refine forceNm_of ?_); conv => whnf)
            | ((with_reducible refine needm_of (fv_lenL (by assumption) (by assumption)) ?_); conv => whnf)
            | ((with_reducible refine optm_var (fv_strL (by assumption) (by assumption)) (fun s hs => ?_)); conv => whnf)
            | ((with_reducible refine forceA_of ?_); conv => whnf)
            | ((with_reducible refine forceL_pl (by assumption) ?_); conv => whnf)
            | ((with_reducible refine forceL_rpl (by assumption) ?_); conv => whnf)
            | ((with_reducible refine fltx_of (fun r hr => ?_)); conv => whnf)
            | ((refine ext_bits (by rfl) bits_n bits_f ?_); conv => whnf)
            | ((refine ext_from (by rfl) from_n from_f ?_); conv => whnf)
            | fail)
          exact keepOf (v₀ := .a (.int .i64 280)) [.cells cs 82 mk, .cells [.slc 0 0 n n] 79 false] [0, 1] rfl ⟨ren_pl hp _ _ _, rfl, trivial⟩ (by simp [nodupb, baseb, Ob.okb, frmOk, V.okb, A.okb, hp.2] <;> decide) (hK2 k x hx rfl (by rw [hf, decide_eq_false (show ¬ d ≤ ks by omega)]; simp))
        · have c2 : decide (d > ks) = false := decide_eq_false h2
          conv => whnf
          repeat' (first
            | rw [e1]
            | ((with_reducible refine regx_of ?_ ?_); (· decide +kernel); conv => whnf)
            | ((with_reducible refine growx_pre ?_ ?_); (· exact ⟨_, rfl⟩); conv => whnf)
            | ((with_reducible refine needm_of ?_ ?_); (· first | assumption | exact decide_eq_true (by omega) | exact mkOK_of (by decide) | decide +kernel | (refine decide_eq_true ?_; simp (disch := omega) only [i64w]; omega)); conv => whnf)
            | ((with_reducible refine condm_pos ?_ ?_); (· assumption); conv => whnf)
            | ((with_reducible refine condm_neg ?_ ?_); (· assumption); conv => whnf)
            | ((with_reducible refine forceL_fv (by assumption) ?_); conv => whnf)
            | ((with_reducible refine forceL_rfv (by assumption) ?_); conv => whnf)
            | ((with_reducible refine forceNm_of ?_); conv => whnf)
            | ((with_reducible refine needm_of (fv_lenL (by assumption) (by assumption)) ?_); conv => whnf)
            | ((with_reducible refine optm_var (fv_strL (by assumption) (by assumption)) (fun s hs => ?_)); conv => whnf)
            | ((with_reducible refine forceA_of ?_); conv => whnf)
            | ((with_reducible refine forceL_pl (by assumption) ?_); conv => whnf)
            | ((with_reducible refine forceL_rpl (by assumption) ?_); conv => whnf)
            | ((with_reducible refine fltx_of (fun r hr => ?_)); conv => whnf)
            | ((refine ext_bits (by rfl) bits_n bits_f ?_); conv => whnf)
            | ((refine ext_from (by rfl) from_n from_f ?_); conv => whnf)
            | ((with_reducible apply optm_of); (· first | exact g0 | exact g1 | exact g2 | exact g3 | exact g4 | exact g5 | exact g6); conv => whnf)
            | fail)
          try rw [e1]
          refine needm_of (Bool.and_eq_true_iff.2 ⟨rfl, decide_eq_true (by show _ + 1 + 1 ≤ _; rw [hko]; omega)⟩) ?_
          conv => whnf
          refine forceL_var (prow_set (x' := { x with ended := true }) hcs hx (k := 1) (by show _ + 1 = _; rw [hko]) (by decide) rfl) (fun cs1 hcs1 => ?_)
          have hp1 := Pl.prow hcs1
          have hl1 : cs1.length = cs.length := by rw [hcs1, prow_length, List.length_set, hcl]
          have hx1 : (P.set k { x with ended := true })[k]? = some { x with ended := true } := by rw [List.getElem?_set, if_pos rfl, if_pos (by omega)]
          conv => whnf
          repeat' (first
            | rw [e1]
            | ((with_reducible refine regx_of ?_ ?_); (· decide +kernel); conv => whnf)
            | ((with_reducible refine growx_pre ?_ ?_); (· exact ⟨_, rfl⟩); conv => whnf)
            | ((with_reducible refine needm_of ?_ ?_); (· first | assumption | exact decide_eq_true (by omega) | exact mkOK_of (by decide) | decide +kernel | (refine decide_eq_true ?_; simp (disch := omega) only [i64w]; omega)); conv => whnf)
            | ((with_reducible refine condm_pos ?_ ?_); (· assumption); conv => whnf)
            | ((with_reducible refine condm_neg ?_ ?_); (· assumption); conv => whnf)
            | ((with_reducible refine forceL_fv (by assumption) ?_); conv => whnf)
            | ((with_reducible refine forceL_rfv (by assumption) ?_); conv => whnf)
            | ((with_reducible refine forceNm_of ?_); conv => whnf)
            | ((with_reducible refine needm_of (fv_lenL (by assumption) (by assumption)) ?_); conv => whnf)
            | ((with_reducible refine optm_var (fv_strL (by assumption) (by assumption)) (fun s hs => ?_)); conv => whnf)
            | ((with_reducible refine forceA_of ?_); conv => whnf)
            | ((with_reducible refine forceL_pl (by assumption) ?_); conv => whnf)
            | ((with_reducible refine forceL_rpl (by assumption) ?_); conv => whnf)
            | ((with_reducible refine fltx_of (fun r hr => ?_)); conv => whnf)
            | ((refine ext_bits (by rfl) bits_n bits_f ?_); conv => whnf)
            | ((refine ext_from (by rfl) from_n from_f ?_); conv => whnf)
            | ((with_reducible apply optm_of); (· first | exact g0 | exact g1 | exact g2 | exact g3 | exact g4 | exact g5 | exact g6); conv => whnf)
            | fail)
          try rw [e1]
          refine needm_of (Bool.and_eq_true_iff.2 ⟨rfl, decide_eq_true (by show _ + 5 + 1 ≤ _; rw [hko, hl1]; omega)⟩) ?_
          conv => whnf
          refine forceL_var (prow_set (x' := { x with ended := true, whn := now }) hcs1 hx1 (k := 5) (by show _ + 5 = _; rw [hko]) (by decide) rfl) (fun cs2 hcs2 => ?_)
          have hp2 := Pl.prow hcs2
          rw [List.set_set] at hcs2
          have hl2 : cs2.length = cs.length := by rw [hcs2, prow_length, List.length_set, hcl]
          have hx2 : (P.set k { x with ended := true, whn := now })[k]? = some { x with ended := true, whn := now } := by rw [List.getElem?_set, if_pos rfl, if_pos (by omega)]
          conv => whnf
          repeat' (first
            | rw [e1]
            | ((with_reducible refine regx_of ?_ ?_); (· decide +kernel); conv => whnf)
            | ((with_reducible refine growx_pre ?_ ?_); (· exact ⟨_, rfl⟩); conv => whnf)
            | ((with_reducible refine needm_of ?_ ?_); (· first | assumption | exact decide_eq_true (by omega) | exact mkOK_of (by decide) | decide +kernel | (refine decide_eq_true ?_; simp (disch := omega) only [i64w]; omega)); conv => whnf)
            | ((with_reducible refine condm_pos ?_ ?_); (· assumption); conv => whnf)
            | ((with_reducible refine condm_neg ?_ ?_); (· assumption); conv => whnf)
            | ((with_reducible refine forceL_fv (by assumption) ?_); conv => whnf)
            | ((with_reducible refine forceL_rfv (by assumption) ?_); conv => whnf)
            | ((with_reducible refine forceNm_of ?_); conv => whnf)
            | ((with_reducible refine needm_of (fv_lenL (by assumption) (by assumption)) ?_); conv => whnf)
            | ((with_reducible refine optm_var (fv_strL (by assumption) (by assumption)) (fun s hs => ?_)); conv => whnf)
            | ((with_reducible refine forceA_of ?_); conv => whnf)
            | ((with_reducible refine forceL_pl (by assumption) ?_); conv => whnf)
            | ((with_reducible refine forceL_rpl (by assumption) ?_); conv => whnf)
            | ((with_reducible refine fltx_of (fun r hr => ?_)); conv => whnf)
            | ((refine ext_bits (by rfl) bits_n bits_f ?_); conv => whnf)
            | ((refine ext_from (by rfl) from_n from_f ?_); conv => whnf)
            | ((with_reducible apply optm_of); (· first | exact g0 | exact g1 | exact g2 | exact g3 | exact g4 | exact g5 | exact g6); conv => whnf)
            | fail)
          refine Go.Eng.Fn.frame [] (by rfl) (by exact trivial) (by rfl) (share17 d ks (fun r hr => ?_))
          conv => whnf
          repeat' (first
            | rw [e1]
            | ((with_reducible refine regx_of ?_ ?_); (· decide +kernel); conv => whnf)
            | ((with_reducible refine growx_pre ?_ ?_); (· exact ⟨_, rfl⟩); conv => whnf)
            | ((with_reducible refine needm_of ?_ ?_); (· first | assumption | exact decide_eq_true (by omega) | exact mkOK_of (by decide) | decide +kernel | (refine decide_eq_true ?_; simp (disch := omega) only [i64w]; omega)); conv => whnf)
            | ((with_reducible refine condm_pos ?_ ?_); (· assumption); conv => whnf)
            | ((with_reducible refine condm_neg ?_ ?_); (· assumption); conv => whnf)
            | ((with_reducible refine forceL_fv (by assumption) ?_); conv => whnf)
            | ((with_reducible refine forceL_rfv (by assumption) ?_); conv => whnf)
            | ((with_reducible refine forceNm_of ?_); conv => whnf)
            | ((with_reducible refine needm_of (fv_lenL (by assumption) (by assumption)) ?_); conv => whnf)
            | ((with_reducible refine optm_var (fv_strL (by assumption) (by assumption)) (fun s hs => ?_)); conv => whnf)
            | ((with_reducible refine forceA_of ?_); conv => whnf)
            | ((with_reducible refine forceL_pl (by assumption) ?_); conv => whnf)
            | ((with_reducible refine forceL_rpl (by assumption) ?_); conv => whnf)
            | ((with_reducible refine fltx_of (fun r hr => ?_)); conv => whnf)
            | ((refine ext_bits (by rfl) bits_n bits_f ?_); conv => whnf)
            | ((refine ext_from (by rfl) from_n from_f ?_); conv => whnf)
            | ((with_reducible apply optm_of); (· first | exact g0 | exact g1 | exact g2 | exact g3 | exact g4 | exact g5 | exact g6); conv => whnf)
            | fail)
          try rw [e1]
          refine needm_of (Bool.and_eq_true_iff.2 ⟨rfl, decide_eq_true (by show _ + 6 + 1 ≤ _; rw [hko, hl2]; omega)⟩) ?_
          conv => whnf
          refine forceL_var (prow_set (x' := { x with ended := true, whn := now, share := r }) hcs2 hx2 (k := 6) (by show _ + 6 = _; rw [hko]) (by decide) rfl) (fun cs3 hcs3 => ?_)
          have hp3 := Pl.prow hcs3
          rw [List.set_set] at hcs3
          conv => whnf
          repeat' (first
            | rw [e1]
            | ((with_reducible refine regx_of ?_ ?_); (· decide +kernel); conv => whnf)
            | ((with_reducible refine growx_pre ?_ ?_); (· exact ⟨_, rfl⟩); conv => whnf)
            | ((with_reducible refine needm_of ?_ ?_); (· first | assumption | exact decide_eq_true (by omega) | exact mkOK_of (by decide) | decide +kernel | (refine decide_eq_true ?_; simp (disch := omega) only [i64w]; omega)); conv => whnf)
            | ((with_reducible refine condm_pos ?_ ?_); (· assumption); conv => whnf)
            | ((with_reducible refine condm_neg ?_ ?_); (· assumption); conv => whnf)
            | ((with_reducible refine forceL_fv (by assumption) ?_); conv => whnf)
            | ((with_reducible refine forceL_rfv (by assumption) ?_); conv => whnf)
            | ((with_reducible refine forceNm_of ?_); conv => whnf)
            | ((with_reducible refine needm_of (fv_lenL (by assumption) (by assumption)) ?_); conv => whnf)
            | ((with_reducible refine optm_var (fv_strL (by assumption) (by assumption)) (fun s hs => ?_)); conv => whnf)
            | ((with_reducible refine forceA_of ?_); conv => whnf)
            | ((with_reducible refine forceL_pl (by assumption) ?_); conv => whnf)
            | ((with_reducible refine forceL_rpl (by assumption) ?_); conv => whnf)
            | ((with_reducible refine fltx_of (fun r hr => ?_)); conv => whnf)
            | ((refine ext_bits (by rfl) bits_n bits_f ?_); conv => whnf)
            | ((refine ext_from (by rfl) from_n from_f ?_); conv => whnf)
            | ((with_reducible apply optm_of); (· first | exact g0 | exact g1 | exact g2 | exact g3 | exact g4 | exact g5 | exact g6); conv => whnf)
            | fail)
          exact keepOf (v₀ := .a (.int .i64 0)) [.cells cs3 82 mk, .cells [.slc 0 0 n n] 79 false] [0, 1] rfl ⟨ren_pl hp3 _ _ _, rfl, trivial⟩ (by simp [nodupb, baseb, Ob.okb, frmOk, V.okb, A.okb, hp3.2] <;> decide) (hK3 k x hx rfl (by rw [hf, decide_eq_true (show 0 ≤ d by omega), decide_eq_true (show d ≤ ks by omega)]; rfl) r hr cs3 hcs3)
set_option maxHeartbeats 400000 in
theorem score49 (P : List Pt) (cs : List A) (n : Nat) (mk : Bool) (hcs : cs = prow P) (hn : n = P.length) (hn5 : n ≤ 5) (i : Int) (now : Nat) {K : V → Hp → Prop}
    (hK : ∀ s, Ans (scoreA P i now) s → K (.a (.flt .f64 s)) [.cells cs 82 mk, .cells [.slc 0 0 n n] 79 false]) :
    Go.Eng.Fn Try.prog ro 49 [.a (.ptr 1 0), .a (.int .i64 i), .a (.flt .f64 now)] [.cells cs 82 mk, .cells [.slc 0 0 n n] 79 false] K := by
  have hp := Pl.prow hcs
  refine Go.Eng.Fn.weak ?_
  refine Go.Eng.Fn.of 2 (gOf []) rfl Try.func49 rfl (Nat.le_of_ble_eq_true rfl) ?_
  conv => whnf
  repeat' (first
    | ((with_reducible refine regx_of ?_ ?_); (· decide +kernel); conv => whnf)
    | ((with_reducible refine growx_pre ?_ ?_); (· exact ⟨_, rfl⟩); conv => whnf)
    | ((with_reducible refine needm_of ?_ ?_); (· first | assumption | exact decide_eq_true (by omega) | exact mkOK_of (by decide) | decide +kernel | (refine decide_eq_true ?_; simp (disch := omega) only [i64w]; omega)); conv => whnf)
    | ((with_reducible refine condm_pos ?_ ?_); (· assumption); conv => whnf)
    | ((with_reducible refine condm_neg ?_ ?_); (· assumption); conv => whnf)
    | ((with_reducible refine forceL_fv (by assumption) ?_); conv => whnf)
    | ((with_reducible refine forceL_rfv (by assumption) ?_); conv => whnf)
    | ((with_reducible refine forceNm_of ?_); conv => whnf)
    | ((with_reducible refine needm_of (fv_lenL (by assumption) (by assumption)) ?_); conv => whnf)
    | ((with_reducible refine optm_var (fv_strL (by assumption) (by assumption)) (fun s hs => ?_)); conv => whnf)
    | ((with_reducible refine forceA_of ?_); conv => whnf)
    | ((with_reducible refine forceL_pl (by assumption) ?_); conv => whnf)
    | ((with_reducible refine forceL_rpl (by assumption) ?_); conv => whnf)
    | ((with_reducible refine fltx_of (fun r hr => ?_)); conv => whnf)
    | ((refine ext_bits (by rfl) bits_n bits_f ?_); conv => whnf)
    | ((refine ext_from (by rfl) from_n from_f ?_); conv => whnf)
    | fail)
  refine Go.Eng.Fn.frame [0, 1] (by rfl) (by exact ⟨ren_pl hp _ _ _, rfl, trivial⟩) (by simp [nodupb, V.okb, A.okb, Ob.okb, hp.2] <;> decide) (there55 cs hp n mk i (fun h => ?_) (fun k hk e => ?_))
  ·
    conv => whnf
    repeat' (first
      | ((with_reducible refine regx_of ?_ ?_); (· decide +kernel); conv => whnf)
      | ((with_reducible refine growx_pre ?_ ?_); (· exact ⟨_, rfl⟩); conv => whnf)
      | ((with_reducible refine needm_of ?_ ?_); (· first | assumption | exact decide_eq_true (by omega) | exact mkOK_of (by decide) | decide +kernel | (refine decide_eq_true ?_; simp (disch := omega) only [i64w]; omega)); conv => whnf)
      | ((with_reducible refine condm_pos ?_ ?_); (· assumption); conv => whnf)
      | ((with_reducible refine condm_neg ?_ ?_); (· assumption); conv => whnf)
      | ((with_reducible refine forceL_fv (by assumption) ?_); conv => whnf)
      | ((with_reducible refine forceL_rfv (by assumption) ?_); conv => whnf)
      | ((with_reducible refine forceNm_of ?_); conv => whnf)
      | ((with_reducible refine needm_of (fv_lenL (by assumption) (by assumption)) ?_); conv => whnf)
      | ((with_reducible refine optm_var (fv_strL (by assumption) (by assumption)) (fun s hs => ?_)); conv => whnf)
      | ((with_reducible refine forceA_of ?_); conv => whnf)
      | ((with_reducible refine forceL_pl (by assumption) ?_); conv => whnf)
      | ((with_reducible refine forceL_rpl (by assumption) ?_); conv => whnf)
      | ((with_reducible refine fltx_of (fun r hr => ?_)); conv => whnf)
      | ((refine ext_bits (by rfl) bits_n bits_f ?_); conv => whnf)
      | ((refine ext_from (by rfl) from_n from_f ?_); conv => whnf)
      | fail)
    refine Go.Eng.Fn.frame [] (by rfl) (by exact trivial) (by rfl) (nan35 ?_)
    conv => whnf
    repeat' (first
      | ((with_reducible refine regx_of ?_ ?_); (· decide +kernel); conv => whnf)
      | ((with_reducible refine growx_pre ?_ ?_); (· exact ⟨_, rfl⟩); conv => whnf)
      | ((with_reducible refine needm_of ?_ ?_); (· first | assumption | exact decide_eq_true (by omega) | exact mkOK_of (by decide) | decide +kernel | (refine decide_eq_true ?_; simp (disch := omega) only [i64w]; omega)); conv => whnf)
      | ((with_reducible refine condm_pos ?_ ?_); (· assumption); conv => whnf)
      | ((with_reducible refine condm_neg ?_ ?_); (· assumption); conv => whnf)
      | ((with_reducible refine forceL_fv (by assumption) ?_); conv => whnf)
      | ((with_reducible refine forceL_rfv (by assumption) ?_); conv => whnf)
      | ((with_reducible refine forceNm_of ?_); conv => whnf)
      | ((with_reducible refine needm_of (fv_lenL (by assumption) (by assumption)) ?_); conv => whnf)
      | ((with_reducible refine optm_var (fv_strL (by assumption) (by assumption)) (fun s hs => ?_)); conv => whnf)
      | ((with_reducible refine forceA_of ?_); conv => whnf)
      | ((with_reducible refine forceL_pl (by assumption) ?_); conv => whnf)
      | ((with_reducible refine forceL_rpl (by assumption) ?_); conv => whnf)
      | ((with_reducible refine fltx_of (fun r hr => ?_)); conv => whnf)
      | ((refine ext_bits (by rfl) bits_n bits_f ?_); conv => whnf)
      | ((refine ext_from (by rfl) from_n from_f ?_); conv => whnf)
      | fail)
    exact keepOf (v₀ := .a (.flt .f64 9221120237041090561)) [.cells cs 82 mk, .cells [.slc 0 0 n n] 79 false] [0, 1] rfl ⟨ren_pl hp _ _ _, rfl, trivial⟩ (by simp [nodupb, baseb, Ob.okb, frmOk, V.okb, A.okb, hp.2] <;> decide) (hK _ (.inr ⟨scoreA_out (by rw [← hn]; exact h), by unfold isNan; decide, by decide⟩))
  ·
    subst e
    obtain ⟨x, hx⟩ : ∃ x, P[k]? = some x := ⟨_, List.getElem?_eq_getElem (by omega)⟩
    have e1 : IntKind.i64.wrap (((k + 1 : Nat) : Int) - 1) = (k : Int) := by rw [i64w (by omega) (by omega)]; omega
    have g0 : cs[0 + (k : Int).toNat * Try.prog.types[82].size + 0]? = some (.bool x.heard) := prow_get hcs hx (k := 0) (by rw [s82]; omega) rfl
    have g1 : cs[0 + (k : Int).toNat * Try.prog.types[82].size + 1]? = some (.bool x.ended) := prow_get hcs hx (k := 1) (by rw [s82]; omega) rfl
    have g2 : cs[0 + (k : Int).toNat * Try.prog.types[82].size + 2]? = some (.flt .f64 x.mean) := prow_get hcs hx (k := 2) (by rw [s82]; omega) rfl
    have g3 : cs[0 + (k : Int).toNat * Try.prog.types[82].size + 3]? = some (.flt .f64 x.stray) := prow_get hcs hx (k := 3) (by rw [s82]; omega) rfl
    have g4 : cs[0 + (k : Int).toNat * Try.prog.types[82].size + 4]? = some (.int .i64 x.dbl) := prow_get hcs hx (k := 4) (by rw [s82]; omega) rfl
    have g5 : cs[0 + (k : Int).toNat * Try.prog.types[82].size + 5]? = some (.flt .f64 x.whn) := prow_get hcs hx (k := 5) (by rw [s82]; omega) rfl
    have g6 : cs[0 + (k : Int).toNat * Try.prog.types[82].size + 6]? = some (.flt .f64 x.share) := prow_get hcs hx (k := 6) (by rw [s82]; omega) rfl
    have hcl : cs.length = P.length * 7 := by rw [hcs, prow_length]
    have hko : 0 + (k : Int).toNat * Try.prog.types[82].size = k * 7 := by rw [s82]; omega
    have hs := scoreA_in (now := now) hx
    conv => whnf
    repeat' (first
      | rw [e1]
      | ((with_reducible refine regx_of ?_ ?_); (· decide +kernel); conv => whnf)
      | ((with_reducible refine growx_pre ?_ ?_); (· exact ⟨_, rfl⟩); conv => whnf)
      | ((with_reducible refine needm_of ?_ ?_); (· first | assumption | exact decide_eq_true (by omega) | exact mkOK_of (by decide) | decide +kernel | (refine decide_eq_true ?_; simp (disch := omega) only [i64w]; omega)); conv => whnf)
      | ((with_reducible refine condm_pos ?_ ?_); (· assumption); conv => whnf)
      | ((with_reducible refine condm_neg ?_ ?_); (· assumption); conv => whnf)
      | ((with_reducible refine forceL_fv (by assumption) ?_); conv => whnf)
      | ((with_reducible refine forceL_rfv (by assumption) ?_); conv => whnf)
      | ((with_reducible refine forceNm_of ?_); conv => whnf)
      | ((with_reducible refine needm_of (fv_lenL (by assumption) (by assumption)) ?_); conv => whnf)
      | ((with_reducible refine optm_var (fv_strL (by assumption) (by assumption)) (fun s hs => ?_)); conv => whnf)
      | ((with_reducible refine forceA_of ?_); conv => whnf)
      | ((with_reducible refine forceL_pl (by assumption) ?_); conv => whnf)
      | ((with_reducible refine forceL_rpl (by assumption) ?_); conv => whnf)
      | ((with_reducible refine fltx_of (fun r hr => ?_)); conv => whnf)
      | ((refine ext_bits (by rfl) bits_n bits_f ?_); conv => whnf)
      | ((refine ext_from (by rfl) from_n from_f ?_); conv => whnf)
      | ((with_reducible apply optm_of); (· first | exact g0 | exact g1 | exact g2 | exact g3 | exact g4 | exact g5 | exact g6); conv => whnf)
      | fail)
    refine needm_of (decide_eq_true (by rw [hko, s82]; omega)) ?_
    conv => whnf
    refine forceL_to (prow_slice hcs hx hko) ?_
    conv => whnf
    conv => whnf
    repeat' (first
      | ((with_reducible refine regx_of ?_ ?_); (· decide +kernel); conv => whnf)
      | ((with_reducible refine growx_pre ?_ ?_); (· exact ⟨_, rfl⟩); conv => whnf)
      | ((with_reducible refine needm_of ?_ ?_); (· first | assumption | exact decide_eq_true (by omega) | exact mkOK_of (by decide) | decide +kernel | (refine decide_eq_true ?_; simp (disch := omega) only [i64w]; omega)); conv => whnf)
      | ((with_reducible refine condm_pos ?_ ?_); (· assumption); conv => whnf)
      | ((with_reducible refine condm_neg ?_ ?_); (· assumption); conv => whnf)
      | ((with_reducible refine forceL_fv (by assumption) ?_); conv => whnf)
      | ((with_reducible refine forceL_rfv (by assumption) ?_); conv => whnf)
      | ((with_reducible refine forceNm_of ?_); conv => whnf)
      | ((with_reducible refine needm_of (fv_lenL (by assumption) (by assumption)) ?_); conv => whnf)
      | ((with_reducible refine optm_var (fv_strL (by assumption) (by assumption)) (fun s hs => ?_)); conv => whnf)
      | ((with_reducible refine forceA_of ?_); conv => whnf)
      | ((with_reducible refine forceL_pl (by assumption) ?_); conv => whnf)
      | ((with_reducible refine forceL_rpl (by assumption) ?_); conv => whnf)
      | ((with_reducible refine fltx_of (fun r hr => ?_)); conv => whnf)
      | ((refine ext_bits (by rfl) bits_n bits_f ?_); conv => whnf)
      | ((refine ext_from (by rfl) from_n from_f ?_); conv => whnf)
      | fail)
    cases he : x.ended with
    | false =>
      rw [he] at hs
      conv => whnf
      repeat' (first
        | ((with_reducible refine regx_of ?_ ?_); (· decide +kernel); conv => whnf)
        | ((with_reducible refine growx_pre ?_ ?_); (· exact ⟨_, rfl⟩); conv => whnf)
        | ((with_reducible refine needm_of ?_ ?_); (· first | assumption | exact decide_eq_true (by omega) | exact mkOK_of (by decide) | decide +kernel | (refine decide_eq_true ?_; simp (disch := omega) only [i64w]; omega)); conv => whnf)
        | ((with_reducible refine condm_pos ?_ ?_); (· assumption); conv => whnf)
        | ((with_reducible refine condm_neg ?_ ?_); (· assumption); conv => whnf)
        | ((with_reducible refine forceL_fv (by assumption) ?_); conv => whnf)
        | ((with_reducible refine forceL_rfv (by assumption) ?_); conv => whnf)
        | ((with_reducible refine forceNm_of ?_); conv => whnf)
        | ((with_reducible refine needm_of (fv_lenL (by assumption) (by assumption)) ?_); conv => whnf)
        | ((with_reducible refine optm_var (fv_strL (by assumption) (by assumption)) (fun s hs => ?_)); conv => whnf)
        | ((with_reducible refine forceA_of ?_); conv => whnf)
        | ((with_reducible refine forceL_pl (by assumption) ?_); conv => whnf)
        | ((with_reducible refine forceL_rpl (by assumption) ?_); conv => whnf)
        | ((with_reducible refine fltx_of (fun r hr => ?_)); conv => whnf)
        | ((refine ext_bits (by rfl) bits_n bits_f ?_); conv => whnf)
        | ((refine ext_from (by rfl) from_n from_f ?_); conv => whnf)
        | fail)
      refine Go.Eng.Fn.frame [] (by rfl) (by exact trivial) (by rfl) (inf20 ?_)
      conv => whnf
      repeat' (first
        | ((with_reducible refine regx_of ?_ ?_); (· decide +kernel); conv => whnf)
        | ((with_reducible refine growx_pre ?_ ?_); (· exact ⟨_, rfl⟩); conv => whnf)
        | ((with_reducible refine needm_of ?_ ?_); (· first | assumption | exact decide_eq_true (by omega) | exact mkOK_of (by decide) | decide +kernel | (refine decide_eq_true ?_; simp (disch := omega) only [i64w]; omega)); conv => whnf)
        | ((with_reducible refine condm_pos ?_ ?_); (· assumption); conv => whnf)
        | ((with_reducible refine condm_neg ?_ ?_); (· assumption); conv => whnf)
        | ((with_reducible refine forceL_fv (by assumption) ?_); conv => whnf)
        | ((with_reducible refine forceL_rfv (by assumption) ?_); conv => whnf)
        | ((with_reducible refine forceNm_of ?_); conv => whnf)
        | ((with_reducible refine needm_of (fv_lenL (by assumption) (by assumption)) ?_); conv => whnf)
        | ((with_reducible refine optm_var (fv_strL (by assumption) (by assumption)) (fun s hs => ?_)); conv => whnf)
        | ((with_reducible refine forceA_of ?_); conv => whnf)
        | ((with_reducible refine forceL_pl (by assumption) ?_); conv => whnf)
        | ((with_reducible refine forceL_rpl (by assumption) ?_); conv => whnf)
        | ((with_reducible refine fltx_of (fun r hr => ?_)); conv => whnf)
        | ((refine ext_bits (by rfl) bits_n bits_f ?_); conv => whnf)
        | ((refine ext_from (by rfl) from_n from_f ?_); conv => whnf)
        | fail)
      exact keepOf (v₀ := .a (.flt .f64 9218868437227405312)) [.cells cs 82 mk, .cells [.slc 0 0 n n] 79 false] [0, 1] rfl ⟨ren_pl hp _ _ _, rfl, trivial⟩ (by simp [nodupb, baseb, Ob.okb, frmOk, V.okb, A.okb, hp.2] <;> decide) (hK _ (.inl hs))
    | true =>
      rw [he] at hs
      conv => whnf
      repeat' (first
        | rw [e1]
        | ((with_reducible refine regx_of ?_ ?_); (· decide +kernel); conv => whnf)
        | ((with_reducible refine growx_pre ?_ ?_); (· exact ⟨_, rfl⟩); conv => whnf)
        | ((with_reducible refine needm_of ?_ ?_); (· first | assumption | exact decide_eq_true (by omega) | exact mkOK_of (by decide) | decide +kernel | (refine decide_eq_true ?_; simp (disch := omega) only [i64w]; omega)); conv => whnf)
        | ((with_reducible refine condm_pos ?_ ?_); (· assumption); conv => whnf)
        | ((with_reducible refine condm_neg ?_ ?_); (· assumption); conv => whnf)
        | ((with_reducible refine forceL_fv (by assumption) ?_); conv => whnf)
        | ((with_reducible refine forceL_rfv (by assumption) ?_); conv => whnf)
        | ((with_reducible refine forceNm_of ?_); conv => whnf)
        | ((with_reducible refine needm_of (fv_lenL (by assumption) (by assumption)) ?_); conv => whnf)
        | ((with_reducible refine optm_var (fv_strL (by assumption) (by assumption)) (fun s hs => ?_)); conv => whnf)
        | ((with_reducible refine forceA_of ?_); conv => whnf)
        | ((with_reducible refine forceL_pl (by assumption) ?_); conv => whnf)
        | ((with_reducible refine forceL_rpl (by assumption) ?_); conv => whnf)
        | ((with_reducible apply optm_of); (· first | exact g0 | exact g1 | exact g2 | exact g3 | exact g4 | exact g5 | exact g6); conv => whnf)
        | fail)
      refine fltx_of (fun r1 hr1 => ?_)
      conv => whnf
      repeat' (first
        | rw [e1]
        | ((with_reducible refine regx_of ?_ ?_); (· decide +kernel); conv => whnf)
        | ((with_reducible refine growx_pre ?_ ?_); (· exact ⟨_, rfl⟩); conv => whnf)
        | ((with_reducible refine needm_of ?_ ?_); (· first | assumption | exact decide_eq_true (by omega) | exact mkOK_of (by decide) | decide +kernel | (refine decide_eq_true ?_; simp (disch := omega) only [i64w]; omega)); conv => whnf)
        | ((with_reducible refine condm_pos ?_ ?_); (· assumption); conv => whnf)
        | ((with_reducible refine condm_neg ?_ ?_); (· assumption); conv => whnf)
        | ((with_reducible refine forceL_fv (by assumption) ?_); conv => whnf)
        | ((with_reducible refine forceL_rfv (by assumption) ?_); conv => whnf)
        | ((with_reducible refine forceNm_of ?_); conv => whnf)
        | ((with_reducible refine needm_of (fv_lenL (by assumption) (by assumption)) ?_); conv => whnf)
        | ((with_reducible refine optm_var (fv_strL (by assumption) (by assumption)) (fun s hs => ?_)); conv => whnf)
        | ((with_reducible refine forceA_of ?_); conv => whnf)
        | ((with_reducible refine forceL_pl (by assumption) ?_); conv => whnf)
        | ((with_reducible refine forceL_rpl (by assumption) ?_); conv => whnf)
        | ((with_reducible apply optm_of); (· first | exact g0 | exact g1 | exact g2 | exact g3 | exact g4 | exact g5 | exact g6); conv => whnf)
        | fail)
      refine fltx_of (fun r2 hr2 => ?_)
      conv => whnf
      repeat' (first
        | rw [e1]
        | ((with_reducible refine regx_of ?_ ?_); (· decide +kernel); conv => whnf)
        | ((with_reducible refine growx_pre ?_ ?_); (· exact ⟨_, rfl⟩); conv => whnf)
        | ((with_reducible refine needm_of ?_ ?_); (· first | assumption | exact decide_eq_true (by omega) | exact mkOK_of (by decide) | decide +kernel | (refine decide_eq_true ?_; simp (disch := omega) only [i64w]; omega)); conv => whnf)
        | ((with_reducible refine condm_pos ?_ ?_); (· assumption); conv => whnf)
        | ((with_reducible refine condm_neg ?_ ?_); (· assumption); conv => whnf)
        | ((with_reducible refine forceL_fv (by assumption) ?_); conv => whnf)
        | ((with_reducible refine forceL_rfv (by assumption) ?_); conv => whnf)
        | ((with_reducible refine forceNm_of ?_); conv => whnf)
        | ((with_reducible refine needm_of (fv_lenL (by assumption) (by assumption)) ?_); conv => whnf)
        | ((with_reducible refine optm_var (fv_strL (by assumption) (by assumption)) (fun s hs => ?_)); conv => whnf)
        | ((with_reducible refine forceA_of ?_); conv => whnf)
        | ((with_reducible refine forceL_pl (by assumption) ?_); conv => whnf)
        | ((with_reducible refine forceL_rpl (by assumption) ?_); conv => whnf)
        | ((with_reducible apply optm_of); (· first | exact g0 | exact g1 | exact g2 | exact g3 | exact g4 | exact g5 | exact g6); conv => whnf)
        | fail)
      refine fltx_of (fun r hr => ?_)
      conv => whnf
      repeat' (first
        | rw [e1]
        | ((with_reducible refine regx_of ?_ ?_); (· decide +kernel); conv => whnf)
        | ((with_reducible refine growx_pre ?_ ?_); (· exact ⟨_, rfl⟩); conv => whnf)
        | ((with_reducible refine needm_of ?_ ?_); (· first | assumption | exact decide_eq_true (by omega) | exact mkOK_of (by decide) | decide +kernel | (refine decide_eq_true ?_; simp (disch := omega) only [i64w]; omega)); conv => whnf)
        | ((with_reducible refine condm_pos ?_ ?_); (· assumption); conv => whnf)
        | ((with_reducible refine condm_neg ?_ ?_); (· assumption); conv => whnf)
        | ((with_reducible refine forceL_fv (by assumption) ?_); conv => whnf)
        | ((with_reducible refine forceL_rfv (by assumption) ?_); conv => whnf)
        | ((with_reducible refine forceNm_of ?_); conv => whnf)
        | ((with_reducible refine needm_of (fv_lenL (by assumption) (by assumption)) ?_); conv => whnf)
        | ((with_reducible refine optm_var (fv_strL (by assumption) (by assumption)) (fun s hs => ?_)); conv => whnf)
        | ((with_reducible refine forceA_of ?_); conv => whnf)
        | ((with_reducible refine forceL_pl (by assumption) ?_); conv => whnf)
        | ((with_reducible refine forceL_rpl (by assumption) ?_); conv => whnf)
        | ((with_reducible apply optm_of); (· first | exact g0 | exact g1 | exact g2 | exact g3 | exact g4 | exact g5 | exact g6); conv => whnf)
        | fail)
      exact keepOf (v₀ := .a (.flt .f64 r)) [.cells cs 82 mk, .cells [.slc 0 0 n n] 79 false] [0, 1] rfl ⟨ren_pl hp _ _ _, rfl, trivial⟩ (by simp [nodupb, baseb, Ob.okb, frmOk, V.okb, A.okb, hp.2] <;> decide) (hK r (by rw [hs]; exact ans_score hr1 hr2 hr))
end
end Go.Proofs.Ytmnimmhpclhmfaa.PC
