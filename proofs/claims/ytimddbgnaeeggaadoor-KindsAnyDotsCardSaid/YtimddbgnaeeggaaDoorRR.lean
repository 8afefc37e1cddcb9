import Derived.Test.YtimddbgnaeeggaaDoorKA
namespace Go.Proofs.YtimddbgnaeeggaaDoor.KD
open Go.Eng
set_option maxRecDepth 100000
/-! ### The reader of the reference. -/
theorem mul_add {v : Nat} {b : UInt8} (hv : v < 72057594037927936) : IntKind.u64.wrap (IntKind.u64.wrap (256 * (v : Int)) + IntKind.u64.wrap (b.toNat : Int)) = ((v * 256 + b.toNat : Nat) : Int) := by
  have hb : b.toNat < 256 := b.toNat_lt
  have e1 : (256 * (v : Int)) = ((v * 256 : Nat) : Int) := by omega
  rw [e1, u64w, u64w, Nat.mod_eq_of_lt (by omega), Nat.mod_eq_of_lt (by omega)]
  have e2 : ((v * 256 : Nat) : Int) + ((b.toNat : Nat) : Int) = ((v * 256 + b.toNat : Nat) : Int) := by omega
  rw [e2, u64w, Nat.mod_eq_of_lt (by omega)]
section
variable {ro : Addr → A → Prop}
set_option maxHeartbeats 400000 in
theorem rfail (s : ByteArray) (a e f : Int) {K : V → Hp → Prop} (hK : K (.t []) [.cells [.str s, .int .i64 a, .int .i64 (if e = 0 then f else e)] 102 false]) :
    Go.Eng.Fn Tryd.prog ro 95 [.a (.ptr 0 0), .a (.int .i64 f)] [.cells [.str s, .int .i64 a, .int .i64 e] 102 false] K := by
  refine Fn.weak ?_
  refine Fn.of 1 (gOf []) rfl Tryd.func95 rfl (Nat.le_of_ble_eq_true rfl) ?_
  by_cases h0 : e = 0
  · subst h0
    rw [if_pos rfl] at hK
    conv => whnf
    skip
    exact keepOf (v₀ := .t []) [.cells [.str s, .int .i64 a, .int .i64 f] 102 false] [0] rfl ⟨rfl, trivial⟩ rfl hK
  · rw [if_neg h0] at hK
    have c0 : (e == 0) = false := by simp [h0]
    conv => whnf
    repeat' ((first | (with_reducible refine y'b ‹_› ?_) | fail) <;> (conv => whnf))
    exact keepOf (v₀ := .t []) [.cells [.str s, .int .i64 a, .int .i64 e] 102 false] [0] rfl ⟨rfl, trivial⟩ rfl hK
set_option maxHeartbeats 1000000 in
theorem whole1 (t : List UInt8) (ht : t.length ≤ 8) {K : V → Hp → Prop} (hK : K (.a (.int .u64 (hiN t : Nat))) []) : Go.Eng.Fn Tryd.prog ro 94 [.a (.str (bs t))] [] K := by
  refine Fn.weak ?_
  refine Fn.of_code (gOf []) Tryd.func94 rfl (Nat.le_of_ble_eq_true rfl) ?_
  obtain ⟨s, hs⟩ : ∃ s, s = bs t := ⟨_, rfl⟩
  rw [← hs]
  have hsz : s.size = t.length := by rw [hs]; exact bs_size t
  conv => whnf
  skip
  refine loopx_of (fun m F H => ∃ i : Nat, i ≤ t.length ∧ m = t.length - i ∧ F = [(0, .a (.str s)), (3, .a (.int .u64 (hiN (t.take i) : Nat))), (4, .a (.int .i64 i))] ∧ H = []) t.length ?_ ?_
  · exact Into.weak [] [(0, .a (.str s)), (3, .a (.int .u64 (0 : Nat))), (4, .a (.int .i64 (0 : Nat)))] [] ⟨0, by omega, rfl, by rw [List.take_zero, hiN_nil], rfl⟩ ⟨rfl, rfl, rfl, trivial⟩ trivial rfl
  · rintro m F H ⟨i, hi, rfl, rfl, rfl⟩
    obtain ⟨v, hv⟩ : ∃ v, v = hiN (t.take i) := ⟨_, rfl⟩
    have hvl := hiN_lt (t.take i)
    have htl : (t.take i).length = i := by rw [List.length_take]; omega
    rw [htl, ← hv] at hvl
    rw [← hv]
    conv => whnf
    skip
    refine y'c (fun h => ?_) (fun h => ?_)
    · have hin : i < t.length := by have := of_decide_eq_true h; omega
      obtain ⟨b, hb⟩ : ∃ b, t[i]? = some b := ⟨_, List.getElem?_eq_getElem hin⟩
      have hw : IntKind.i64.wrap (↑i + 1) = ((i + 1 : Nat) : Int) := by rw [i64w (by omega) (by omega)]; rfl
      have g0 : byteAt s (i : Int) = some b := by rw [hs]; exact byteAt_bs hb
      have hv7 : v < 72057594037927936 := by
        have : 256 ^ i ≤ 256 ^ 7 := Nat.pow_le_pow_right (by decide) (by omega)
        have e : (256 : Nat) ^ 7 = 72057594037927936 := by decide
        omega
      have hts : t.take (i + 1) = t.take i ++ [b] := by rw [List.take_add_one, hb]; rfl
      have hn : hiN (t.take (i + 1)) = v * 256 + b.toNat := by rw [hts, hiN_snoc, ← hv]
      conv => whnf
      repeat' ((first | ((with_reducible apply y'o); (· first | exact g0 | exact g1 | exact g2)) | fail) <;> (conv => whnf))
      rw [mul_add hv7, ← hn]
      exact ⟨t.length - (i + 1), by omega, Into.weak [] [(0, .a (.str s)), (3, .a (.int .u64 (hiN (t.take (i + 1)) : Nat))), (4, .a (.int .i64 ((i + 1 : Nat) : Int)))] [] ⟨i + 1, by omega, rfl, rfl, rfl⟩ ⟨rfl, rfl, congrArg (fun z => some (V.a (.int .i64 z))) hw, trivial⟩ trivial rfl⟩
    · have hin : i = t.length := by have := of_decide_eq_false h; omega
      rw [hin, List.take_of_length_le (Nat.le_refl _)] at hv
      conv => whnf
      skip
      exact keepOf (v₀ := .a (.int .u64 (v : Nat))) [] [] rfl trivial rfl (by rw [hv]; exact hK)
set_option maxHeartbeats 1000000 in
theorem rraw (L : List UInt8) (a n : Nat) (e : Int) (ha : a ≤ L.length) (hL : L.length ≤ 140737488351232) (hn : n ≤ 8) {K : V → Hp → Prop}
    (hK : ∀ t ok a' e', tk L a e n = (t, ok, a', e') → K (.a (.str (bs t))) [.cells [.str (bs L), .int .i64 (a' : Nat), .int .i64 e'] 102 false]) :
    Go.Eng.Fn Tryd.prog ro 93 [.a (.ptr 0 0), .a (.int .i64 (n : Int))] [.cells [.str (bs L), .int .i64 (a : Int), .int .i64 e] 102 false] K := by
  obtain ⟨s, hs⟩ : ∃ s, s = bs L := ⟨_, rfl⟩
  have hsz : s.size = L.length := by rw [hs]; exact bs_size L
  have e1 : IntKind.i64.wrap ((s.size : Int) - (a : Int)) = (s.size : Int) - (a : Int) := i64w (by omega) (by omega)
  have c9 : decide ((n : Int) < 0) = false := decide_eq_false (by omega)
  refine Fn.weak ?_
  refine Fn.of 1 h93 rfl Tryd.func93 rfl (Nat.le_of_ble_eq_true rfl) ?_
  rw [← hs] at hK ⊢
  by_cases h1 : L.length < a + n
  · have c1 : decide ((n : Int) > (s.size : Int) - (a : Int)) = true := decide_eq_true (by omega)
    conv => whnf
    repeat' ((first | ((with_reducible refine y'r ?_ ?_); (· decide +kernel)) | ((with_reducible refine y'g ?_ ?_); (· exact ⟨_, rfl⟩)) | fail) <;> (conv => whnf))
    rw [e1]
    conv => whnf
    repeat' ((first | (with_reducible refine y'b ‹_› ?_) | fail) <;> (conv => whnf))
    refine Fn.frame [0] (by rfl) (by exact ⟨rfl, trivial⟩) (by rfl) (rfail s a e 10 ?_)
    have he : (if e = 0 then (10 : Int) else e) ≠ 0 := by split <;> omega
    have hk := hK [] false a (if e = 0 then (10 : Int) else e) (by
      by_cases h0 : e = 0
      · rw [if_pos h0, h0]; exact tk_short h1
      · rw [if_neg h0]; exact tk_err h0)
    generalize (if e = 0 then (10 : Int) else e) = e' at *
    have c0 : (e' != 0) = true := by simp [he]
    conv => whnf
    repeat' ((first | (with_reducible refine y'b ‹_› ?_) | fail) <;> (conv => whnf))
    exact keepOf (v₀ := .a (.str (bs []))) [.cells [.str s, .int .i64 (a : Nat), .int .i64 e'] 102 false] [0] rfl ⟨rfl, trivial⟩ rfl hk
  · have c1 : decide ((n : Int) > (s.size : Int) - (a : Int)) = false := decide_eq_false (by omega)
    by_cases h0 : e = 0
    · subst h0
      have e2 : IntKind.i64.wrap ((a : Int) + (n : Int)) = ((a + n : Nat) : Int) := by rw [i64w (by omega) (by omega)]; omega
      have c2 : decide (0 ≤ ((a + n : Nat) : Int) ∧ ((a + n : Nat) : Int) ≤ (s.size : Int)) = true := decide_eq_true (by omega)
      have c3 : decide (0 ≤ (a : Int) ∧ (a : Int) ≤ (((a + n : Nat) : Int).toNat : Int)) = true := decide_eq_true (by omega)
      conv => whnf
      repeat' ((first | ((with_reducible refine y'r ?_ ?_); (· decide +kernel)) | ((with_reducible refine y'g ?_ ?_); (· exact ⟨_, rfl⟩)) | fail) <;> (conv => whnf))
      rw [e1]
      conv => whnf
      repeat' ((first | ((with_reducible refine y'r ?_ ?_); (· decide +kernel)) | ((with_reducible refine y'g ?_ ?_); (· exact ⟨_, rfl⟩)) | (with_reducible refine y'b ‹_› ?_) | ((with_reducible refine y'n ?_ ?_); (· first | assumption | exact decide_eq_true (by omega) | decide +kernel)) | fail) <;> (conv => whnf))
      rw [e2]
      conv => whnf
      skip
      have e3 : s.extract (Int.toNat (a : Int)) (Int.toNat ((a + n : Nat) : Int)) = bs ((L.drop a).take n) := by
        rw [hs, bs_extract]
        congr 2
        omega
      rw [e3]
      exact keepOf (v₀ := .a (.str (bs ((L.drop a).take n)))) [.cells [.str s, .int .i64 ((a + n : Nat) : Int), .int .i64 0] 102 false] [0] rfl ⟨rfl, trivial⟩ rfl (hK _ _ _ _ (tk_ok (by omega)))
    · have c0 : (e != 0) = true := by simp [h0]
      conv => whnf
      repeat' ((first | ((with_reducible refine y'r ?_ ?_); (· decide +kernel)) | ((with_reducible refine y'g ?_ ?_); (· exact ⟨_, rfl⟩)) | fail) <;> (conv => whnf))
      rw [e1]
      conv => whnf
      repeat' ((first | (with_reducible refine y'b ‹_› ?_) | fail) <;> (conv => whnf))
      exact keepOf (v₀ := .a (.str (bs []))) [.cells [.str s, .int .i64 (a : Nat), .int .i64 e] 102 false] [0] rfl ⟨rfl, trivial⟩ rfl (hK _ _ _ _ (tk_err h0))
set_option maxHeartbeats 1000000 in
theorem rrbyte (L : List UInt8) (a : Nat) (e : Int) (ha : a ≤ L.length) (hL : L.length ≤ 140737488351232) {K : V → Hp → Prop}
    (hK : ∀ t ok a' e', tk L a e 1 = (t, ok, a', e') → K (.a (.int .u8 ((UInt8.ofNat (hiN t)).toNat : Int))) [.cells [.str (bs L), .int .i64 (a' : Nat), .int .i64 e'] 102 false]) :
    Go.Eng.Fn Tryd.prog ro 59 [.a (.ptr 0 0)] [.cells [.str (bs L), .int .i64 (a : Int), .int .i64 e] 102 false] K := by
  refine Fn.weak ?_
  refine Fn.of 1 (gOf []) rfl Tryd.func59 rfl (Nat.le_of_ble_eq_true rfl) ?_
  conv => whnf
  refine Fn.frame [0] (by rfl) (by exact ⟨rfl, trivial⟩) (by rfl) (rraw L a 1 e ha hL (by decide) (fun t ok a' e' ht => ?_))
  have hk := hK t ok a' e' ht
  have htl : t.length ≤ 8 := by
    rcases tk_cases ht with ⟨_, h, _⟩ | ⟨_, _, _, _, h, _⟩
    · rw [h]; decide
    · omega
  generalize bs L = s at *
  conv => whnf
  skip
  refine Fn.frame [] (by rfl) (by exact trivial) (by rfl) (whole1 t htl ?_)
  conv => whnf
  skip
  rw [wrap8, b8_ofNat]
  exact keepOf (v₀ := .a (.int .u8 ((UInt8.ofNat (hiN t)).toNat : Int))) [.cells [.str s, .int .i64 (a' : Nat), .int .i64 e'] 102 false] [0] rfl ⟨rfl, trivial⟩ rfl hk
set_option maxHeartbeats 1000000 in
theorem rrfixed (L : List UInt8) (a n : Nat) (e : Int) (ha : a ≤ L.length) (hL : L.length ≤ 140737488351232) (h1 : 1 ≤ n) (h8 : n ≤ 8) {K : V → Hp → Prop}
    (hK : ∀ t ok a' e', tk L a e n = (t, ok, a', e') → K (.a (.int .u64 (hiN t : Nat))) [.cells [.str (bs L), .int .i64 (a' : Nat), .int .i64 e'] 102 false]) :
    Go.Eng.Fn Tryd.prog ro 61 [.a (.ptr 0 0), .a (.int .i64 (n : Int))] [.cells [.str (bs L), .int .i64 (a : Int), .int .i64 e] 102 false] K := by
  have c1 : decide ((n : Int) < 1) = false := decide_eq_false (by omega)
  have c2 : decide ((n : Int) > 8) = false := decide_eq_false (by omega)
  refine Fn.weak ?_
  refine Fn.of 1 (gOf []) rfl Tryd.func61 rfl (Nat.le_of_ble_eq_true rfl) ?_
  conv => whnf
  repeat' ((first | (with_reducible refine y'b ‹_› ?_) | fail) <;> (conv => whnf))
  refine Fn.frame [0] (by rfl) (by exact ⟨rfl, trivial⟩) (by rfl) (rraw L a n e ha hL h8 (fun t ok a' e' ht => ?_))
  have hk := hK t ok a' e' ht
  have htl : t.length ≤ 8 := by
    rcases tk_cases ht with ⟨_, h, _⟩ | ⟨_, _, _, _, h, _⟩
    · rw [h]; decide
    · omega
  generalize bs L = s at *
  conv => whnf
  skip
  refine Fn.frame [] (by rfl) (by exact trivial) (by rfl) (whole1 t htl ?_)
  conv => whnf
  skip
  exact keepOf (v₀ := .a (.int .u64 (hiN t : Nat))) [.cells [.str s, .int .i64 (a' : Nat), .int .i64 e'] 102 false] [0] rfl ⟨rfl, trivial⟩ rfl hk
set_option maxHeartbeats 2000000 in
theorem rrfloat (L : List UInt8) (a : Nat) (e : Int) (ha : a ≤ L.length) (hL : L.length ≤ 140737488351232) {K : V → Hp → Prop}
    (hK : ∀ v a' e', rf L a e = (v, a', e') → K (.a (.flt .f64 v)) [.cells [.str (bs L), .int .i64 (a' : Nat), .int .i64 e'] 102 false]) :
    Go.Eng.Fn Tryd.prog ro 60 [.a (.ptr 0 0)] [.cells [.str (bs L), .int .i64 (a : Int), .int .i64 e] 102 false] K := by
  refine Fn.weak ?_
  refine Fn.of 1 (gOf []) rfl Tryd.func60 rfl (Nat.le_of_ble_eq_true rfl) ?_
  conv => whnf
  skip
  refine Fn.frame [0] (by rfl) (by exact ⟨rfl, trivial⟩) (by rfl) (rraw L a 8 e ha hL (by decide) (fun t ok a' e' ht => ?_))
  rcases tk_cases ht with ⟨rfl, h1, rfl, h3⟩ | ⟨rfl, rfl, h2, h3, h4, rfl, rfl⟩
  · have hk := hK 0 a' e' (by unfold rf; rw [ht]; rfl)
    subst h1
    generalize bs L = s at *
    conv => whnf
    skip
    refine Fn.frame [] (by rfl) (by exact trivial) (by rfl) (whole1 [] (by decide) ?_)
    rw [hiN_nil]
    conv => whnf
    refine ext_from (by rfl) from_n from_f ?_
    rw [Int.toNat_natCast]
    have ex : (!fEqK .f64 0 0) = false := by rw [fEq_self]; unfold isNan; decide
    conv => whnf
    repeat' ((first | (with_reducible refine y'b ‹_› ?_) | fail) <;> (conv => whnf))
    exact keepOf (v₀ := .a (.flt .f64 0)) [.cells [.str s, .int .i64 (a' : Nat), .int .i64 e'] 102 false] [0] rfl ⟨rfl, trivial⟩ rfl hk
  · obtain ⟨v, hv⟩ : ∃ v, v = hiN t := ⟨_, rfl⟩
    have hk1 : (isNan v = true ∧ v ≠ 9221120237041090560) → _ := fun h => hK 0 a 4 (by unfold rf; rw [ht]; simp only [if_true, ← hv]; rw [if_pos h])
    have hk2 : ¬ (isNan v = true ∧ v ≠ 9221120237041090560) → _ := fun h => hK v (a + 8) 0 (by unfold rf; rw [ht]; simp only [if_true, ← hv]; rw [if_neg h])
    clear hK
    generalize bs L = s at *
    conv => whnf
    skip
    refine Fn.frame [] (by rfl) (by exact trivial) (by rfl) (whole1 t (by omega) ?_)
    rw [← hv]
    conv => whnf
    refine ext_from (by rfl) from_n from_f ?_
    rw [Int.toNat_natCast]
    have ex : (!fEqK .f64 v v) = isNan v := by rw [fEq_self]; simp
    cases hn : isNan v with
    | false =>
      rw [hn] at hk2 ex
      conv => whnf
      repeat' ((first | (with_reducible refine y'b ‹_› ?_) | fail) <;> (conv => whnf))
      exact keepOf (v₀ := .a (.flt .f64 v)) [.cells [.str s, .int .i64 ((a + 8 : Nat) : Int), .int .i64 0] 102 false] [0] rfl ⟨rfl, trivial⟩ rfl (hk2 (by simp))
    | true =>
      rw [hn] at hk1 hk2 ex
      conv => whnf
      repeat' ((first | (with_reducible refine y'b ‹_› ?_) | fail) <;> (conv => whnf))
      refine Fn.frame [] (by rfl) (by exact trivial) (by rfl) (whole1 t (by omega) ?_)
      rw [← hv]
      by_cases hq : v = 9221120237041090560
      · have c1 : ((v : Int) != 9221120237041090560) = false := by rw [hq]; rfl
        conv => whnf
        repeat' ((first | (with_reducible refine y'b ‹_› ?_) | fail) <;> (conv => whnf))
        exact keepOf (v₀ := .a (.flt .f64 v)) [.cells [.str s, .int .i64 ((a + 8 : Nat) : Int), .int .i64 0] 102 false] [0] rfl ⟨rfl, trivial⟩ rfl (hk2 (by simp [hq]))
      · have c1 : ((v : Int) != 9221120237041090560) = true := by simp; omega
        conv => whnf
        repeat' ((first | (with_reducible refine y'b ‹_› ?_) | fail) <;> (conv => whnf))
        refine Fn.frame [0] (by rfl) (by exact ⟨rfl, trivial⟩) (by rfl) (rfail s a 0 4 ?_)
        conv => whnf
        skip
        exact keepOf (v₀ := .a (.flt .f64 0)) [.cells [.str s, .int .i64 (a : Int), .int .i64 4] 102 false] [0] rfl ⟨rfl, trivial⟩ rfl (hk1 ⟨rfl, hq⟩)
end
end Go.Proofs.YtimddbgnaeeggaaDoor.KD
