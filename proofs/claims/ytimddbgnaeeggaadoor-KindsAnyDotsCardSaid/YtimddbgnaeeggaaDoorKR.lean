import Derived.Test.YtimddbgnaeeggaaDoorKF
namespace Go.Proofs.YtimddbgnaeeggaaDoor.KD
open Go.Eng
set_option maxRecDepth 100000
/-! ### Reading, plainly: what is read, how many bytes are taken then, the error. -/
@[irreducible] def tk (L : List UInt8) (a : Nat) (e : Int) (n : Nat) : List UInt8 × Bool × Nat × Int :=
  if e ≠ 0 then ([], false, a, e) else if L.length < a + n then ([], false, a, 10) else ((L.drop a).take n, true, a + n, 0)
theorem tk_err {L : List UInt8} {a : Nat} {e : Int} {n : Nat} (h : e ≠ 0) : tk L a e n = ([], false, a, e) := by unfold tk; rw [if_pos h]
theorem tk_short {L : List UInt8} {a n : Nat} (h : L.length < a + n) : tk L a 0 n = ([], false, a, 10) := by unfold tk; rw [if_neg (by simp), if_pos h]
theorem tk_ok {L : List UInt8} {a n : Nat} (h : a + n ≤ L.length) : tk L a 0 n = ((L.drop a).take n, true, a + n, 0) := by unfold tk; rw [if_neg (by simp), if_neg (by omega)]
theorem tk_cases {L : List UInt8} {a : Nat} {e : Int} {n : Nat} {t : List UInt8} {ok : Bool} {a' : Nat} {e' : Int} (h : tk L a e n = (t, ok, a', e')) :
    (ok = false ∧ t = [] ∧ a' = a ∧ e' ≠ 0) ∨ (ok = true ∧ e = 0 ∧ a + n ≤ L.length ∧ t = (L.drop a).take n ∧ t.length = n ∧ a' = a + n ∧ e' = 0) := by
  by_cases h0 : e = 0
  · subst h0
    by_cases h1 : L.length < a + n
    · rw [tk_short h1] at h
      injection h with h2 h3; injection h3 with h3 h4; injection h4 with h4 h5
      exact .inl ⟨h3.symm, h2.symm, h4.symm, by rw [← h5]; decide⟩
    · rw [tk_ok (by omega)] at h
      injection h with h2 h3; injection h3 with h3 h4; injection h4 with h4 h5
      exact .inr ⟨h3.symm, rfl, by omega, h2.symm, by rw [← h2, List.length_take, List.length_drop]; omega, h4.symm, h5.symm⟩
  · rw [tk_err h0] at h
    injection h with h2 h3; injection h3 with h3 h4; injection h4 with h4 h5
    exact .inl ⟨h3.symm, h2.symm, h4.symm, by rw [← h5]; exact h0⟩
theorem bs_extract (L : List UInt8) (l h : Nat) : (bs L).extract l h = bs ((L.drop l).take (h - l)) := by
  apply ByteArray.ext
  simp [bs, ByteArray.data_extract, List.extract]
theorem byteAt_bs {L : List UInt8} {i : Nat} {b : UInt8} (h : L[i]? = some b) : byteAt (bs L) (i : Int) = some b := by
  obtain ⟨hi, hb⟩ := List.getElem?_eq_some_iff.1 h
  unfold byteAt
  rw [if_pos (by omega), Int.toNat_natCast]
  have hs : i < (bs L).size := by rw [bs_size]; exact hi
  rw [getElem?_pos (bs L) i hs]
  congr 1
theorem shl_or {v : Nat} {b : UInt8} (hv : v < 72057594037927936) : bitx .or .u64 (IntKind.u64.wrap ((v : Int) * 2 ^ min (Int.toNat 8) IntKind.u64.bits)) (IntKind.u64.wrap (b.toNat : Int)) = ((v * 256 + b.toNat : Nat) : Int) := by
  have hb : b.toNat < 256 := b.toNat_lt
  have e1 : ((v : Int) * 2 ^ min (Int.toNat 8) IntKind.u64.bits) = ((v * 256 : Nat) : Int) := by
    show (v : Int) * 256 = _
    omega
  rw [e1, u64w, u64w, Nat.mod_eq_of_lt (by omega), Nat.mod_eq_of_lt (by omega)]
  unfold bitx
  simp only
  have e2 : (BitVec.ofInt IntKind.u64.bits ((v * 256 : Nat) : Int)).toNat = v * 256 := by
    show (BitVec.ofInt 64 _).toNat = _
    rw [BitVec.toNat_ofInt]; omega
  have e3 : (BitVec.ofInt IntKind.u64.bits ((b.toNat : Nat) : Int)).toNat = b.toNat := by
    show (BitVec.ofInt 64 _).toNat = _
    rw [BitVec.toNat_ofInt]; omega
  have e4 : v * 256 ||| b.toNat = v * 256 + b.toNat := by
    have := Nat.two_pow_add_eq_or_of_lt (i := 8) (b := b.toNat) (by omega) v
    rw [Nat.mul_comm v 256]
    exact this.symm
  rw [BitVec.toNat_or, e2, e3, e4, u64w, Nat.mod_eq_of_lt (by omega)]
section
variable {ro : Addr → A → Prop}
set_option maxHeartbeats 400000 in
theorem newReader (L : List UInt8) {K : V → Hp → Prop} (hK : K (.a (.ptr 0 0)) [.cells [.str (bs L), .int .i64 0, .int .i64 0] 121 false]) : Go.Eng.Fn Tryd.prog ro 48 [.a (.str (bs L))] [] K := by
  generalize bs L = s at *
  refine Fn.weak ?_
  refine Fn.of_code (gOf []) Tryd.func48 rfl (Nat.le_of_ble_eq_true rfl) ?_
  conv => whnf
  skip
  exact keepOf (v₀ := .a (.ptr 0 0)) [.cells [.str s, .int .i64 0, .int .i64 0] 121 false] [0] rfl ⟨rfl, trivial⟩ rfl hK
set_option maxHeartbeats 1000000 in
theorem high (t : List UInt8) (ht : t.length ≤ 8) {K : V → Hp → Prop} (hK : K (.a (.int .u64 (hiN t : Nat))) []) : Go.Eng.Fn Tryd.prog ro 82 [.a (.str (bs t))] [] K := by
  refine Fn.weak ?_
  refine Fn.of_code (gOf []) Tryd.func82 rfl (Nat.le_of_ble_eq_true rfl) ?_
  obtain ⟨s, hs⟩ : ∃ s, s = bs t := ⟨_, rfl⟩
  rw [← hs]
  have hsz : s.size = t.length := by rw [hs]; exact bs_size t
  conv => whnf
  skip
  refine loopx_of (fun m F H => ∃ i : Nat, i ≤ t.length ∧ m = t.length - i ∧ F = [(0, .a (.str s)), (3, .a (.int .u64 (hiN (t.take i) : Nat))), (6, .a (.int .i64 s.size)), (7, .a (.int .i64 i))] ∧ H = []) t.length ?_ ?_
  · exact Into.weak [] [(0, .a (.str s)), (3, .a (.int .u64 (0 : Nat))), (6, .a (.int .i64 s.size)), (7, .a (.int .i64 (0 : Nat)))] [] ⟨0, by omega, rfl, by rw [List.take_zero, hiN_nil], rfl⟩ ⟨rfl, rfl, rfl, rfl, trivial⟩ trivial rfl
  · rintro m F H ⟨i, hi, rfl, rfl, rfl⟩
    obtain ⟨v, hv⟩ : ∃ v, v = hiN (t.take i) := ⟨_, rfl⟩
    have hvl := hiN_lt (t.take i)
    have htl : (t.take i).length = i := by rw [List.length_take]; omega
    rw [htl, ← hv] at hvl
    rw [← hv]
    conv => whnf
    skip
    refine y'c (fun h => ?_) (fun h => ?_)
    · have hin : i < t.length := by have := of_decide_eq_true h; omega
      obtain ⟨b, hb⟩ : ∃ b, t[i]? = some b := ⟨_, List.getElem?_eq_getElem hin⟩
      have hw : IntKind.i64.wrap (↑i + 1) = ((i + 1 : Nat) : Int) := by rw [i64w (by omega) (by omega)]; rfl
      have g0 : byteAt s (i : Int) = some b := by rw [hs]; exact byteAt_bs hb
      have hv7 : v < 72057594037927936 := by
        have : 256 ^ i ≤ 256 ^ 7 := Nat.pow_le_pow_right (by decide) (by omega)
        have e : (256 : Nat) ^ 7 = 72057594037927936 := by decide
        omega
      have hts : t.take (i + 1) = t.take i ++ [b] := by rw [List.take_add_one, hb]; rfl
      have hn : hiN (t.take (i + 1)) = v * 256 + b.toNat := by rw [hts, hiN_snoc, ← hv]
      conv => whnf
      repeat' ((first | ((with_reducible apply y'o); (· first | exact g0 | exact g1 | exact g2)) | fail) <;> (conv => whnf))
      rw [shl_or hv7, ← hn]
      exact ⟨t.length - (i + 1), by omega, Into.weak [] [(0, .a (.str s)), (3, .a (.int .u64 (hiN (t.take (i + 1)) : Nat))), (6, .a (.int .i64 s.size)), (7, .a (.int .i64 ((i + 1 : Nat) : Int)))] [] ⟨i + 1, by omega, rfl, rfl, rfl⟩ ⟨rfl, rfl, rfl, congrArg (fun z => some (V.a (.int .i64 z))) hw, trivial⟩ trivial rfl⟩
    · have hin : i = t.length := by have := of_decide_eq_false h; omega
      rw [hin, List.take_of_length_le (Nat.le_refl _)] at hv
      conv => whnf
      skip
      exact keepOf (v₀ := .a (.int .u64 (v : Nat))) [] [] rfl trivial rfl (by rw [hv]; exact hK)
set_option maxHeartbeats 1000000 in
theorem rtake (L : List UInt8) (a n : Nat) (e : Int) (ha : a ≤ L.length) (hL : L.length ≤ 140737488351232) (hn : n ≤ 8) {K : V → Hp → Prop}
    (hK : ∀ t ok a' e', tk L a e n = (t, ok, a', e') → K (.t [.a (.str (bs t)), .a (.bool ok)]) [.cells [.str (bs L), .int .i64 (a' : Nat), .int .i64 e'] 121 false]) :
    Go.Eng.Fn Tryd.prog ro 81 [.a (.ptr 0 0), .a (.int .i64 (n : Int))] [.cells [.str (bs L), .int .i64 (a : Int), .int .i64 e] 121 false] K := by
  obtain ⟨s, hs⟩ : ∃ s, s = bs L := ⟨_, rfl⟩
  have hsz : s.size = L.length := by rw [hs]; exact bs_size L
  have e1 : IntKind.i64.wrap ((s.size : Int) - (a : Int)) = (s.size : Int) - (a : Int) := i64w (by omega) (by omega)
  refine Fn.weak ?_
  refine Fn.of 1 h81 rfl Tryd.func81 rfl (Nat.le_of_ble_eq_true rfl) ?_
  rw [← hs] at hK ⊢
  by_cases h0 : e = 0
  · subst h0
    by_cases h1 : L.length < a + n
    · have c1 : decide ((n : Int) > (s.size : Int) - (a : Int)) = true := decide_eq_true (by omega)
      conv => whnf
      repeat' ((first | ((with_reducible refine y'r ?_ ?_); (· decide +kernel)) | ((with_reducible refine y'g ?_ ?_); (· exact ⟨_, rfl⟩)) | fail) <;> (conv => whnf))
      rw [e1]
      conv => whnf
      repeat' ((first | (with_reducible refine y'b ‹_› ?_) | fail) <;> (conv => whnf))
      exact keepOf (v₀ := .t [.a (.str (bs [])), .a (.bool false)]) [.cells [.str s, .int .i64 (a : Nat), .int .i64 10] 121 false] [0] rfl ⟨rfl, trivial⟩ rfl (hK _ _ _ _ (tk_short h1))
    · have c1 : decide ((n : Int) > (s.size : Int) - (a : Int)) = false := decide_eq_false (by omega)
      have e2 : IntKind.i64.wrap ((a : Int) + (n : Int)) = ((a + n : Nat) : Int) := by rw [i64w (by omega) (by omega)]; omega
      have c2 : decide (0 ≤ ((a + n : Nat) : Int) ∧ ((a + n : Nat) : Int) ≤ (s.size : Int)) = true := decide_eq_true (by omega)
      have c3 : decide (0 ≤ (a : Int) ∧ (a : Int) ≤ (((a + n : Nat) : Int).toNat : Int)) = true := decide_eq_true (by omega)
      conv => whnf
      repeat' ((first | ((with_reducible refine y'r ?_ ?_); (· decide +kernel)) | ((with_reducible refine y'g ?_ ?_); (· exact ⟨_, rfl⟩)) | fail) <;> (conv => whnf))
      rw [e1]
      conv => whnf
      repeat' ((first | ((with_reducible refine y'r ?_ ?_); (· decide +kernel)) | ((with_reducible refine y'g ?_ ?_); (· exact ⟨_, rfl⟩)) | (with_reducible refine y'b ‹_› ?_) | ((with_reducible refine y'n ?_ ?_); (· first | assumption | exact decide_eq_true (by omega) | decide +kernel)) | fail) <;> (conv => whnf))
      rw [e2]
      conv => whnf
      skip
      have e3 : s.extract (Int.toNat (a : Int)) (Int.toNat ((a + n : Nat) : Int)) = bs ((L.drop a).take n) := by
        rw [hs, bs_extract]
        congr 2
        omega
      exact keepOf (v₀ := .t [.a (.str (bs ((L.drop a).take n))), .a (.bool true)]) [.cells [.str s, .int .i64 ((a + n : Nat) : Int), .int .i64 0] 121 false] [0] (by rw [e3]; rfl) ⟨rfl, trivial⟩ rfl (hK _ _ _ _ (tk_ok (by omega)))
  · have c0 : (e != 0) = true := by simp [h0]
    conv => whnf
    repeat' ((first | (with_reducible refine y'b ‹_› ?_) | fail) <;> (conv => whnf))
    exact keepOf (v₀ := .t [.a (.str (bs [])), .a (.bool false)]) [.cells [.str s, .int .i64 (a : Nat), .int .i64 e] 121 false] [0] rfl ⟨rfl, trivial⟩ rfl (hK _ _ _ _ (tk_err h0))
set_option maxHeartbeats 1000000 in
theorem rbyte (L : List UInt8) (a : Nat) (e : Int) (ha : a ≤ L.length) (hL : L.length ≤ 140737488351232) {K : V → Hp → Prop}
    (hK : ∀ t ok a' e', tk L a e 1 = (t, ok, a', e') → K (.a (.int .u8 ((UInt8.ofNat (hiN t)).toNat : Int))) [.cells [.str (bs L), .int .i64 (a' : Nat), .int .i64 e'] 121 false]) :
    Go.Eng.Fn Tryd.prog ro 51 [.a (.ptr 0 0)] [.cells [.str (bs L), .int .i64 (a : Int), .int .i64 e] 121 false] K := by
  refine Fn.weak ?_
  refine Fn.of 1 (gOf []) rfl Tryd.func51 rfl (Nat.le_of_ble_eq_true rfl) ?_
  conv => whnf
  refine Fn.frame [0] (by rfl) (by exact ⟨rfl, trivial⟩) (by rfl) (rtake L a 1 e ha hL (by decide) (fun t ok a' e' ht => ?_))
  have hk := hK t ok a' e' ht
  have htl : t.length ≤ 8 := by
    rcases tk_cases ht with ⟨_, h, _⟩ | ⟨_, _, _, _, h, _⟩
    · rw [h]; decide
    · omega
  generalize bs L = s at *
  conv => whnf
  skip
  refine Fn.frame [] (by rfl) (by exact trivial) (by rfl) (high t htl ?_)
  conv => whnf
  skip
  rw [wrap8, b8_ofNat]
  exact keepOf (v₀ := .a (.int .u8 ((UInt8.ofNat (hiN t)).toNat : Int))) [.cells [.str s, .int .i64 (a' : Nat), .int .i64 e'] 121 false] [0] rfl ⟨rfl, trivial⟩ rfl hk
set_option maxHeartbeats 1000000 in
theorem rfixed (L : List UInt8) (a n : Nat) (e : Int) (ha : a ≤ L.length) (hL : L.length ≤ 140737488351232) (h1 : 1 ≤ n) (h8 : n ≤ 8) {K : V → Hp → Prop}
    (hK : ∀ t ok a' e', tk L a e n = (t, ok, a', e') → K (.a (.int .u64 (hiN t : Nat))) [.cells [.str (bs L), .int .i64 (a' : Nat), .int .i64 e'] 121 false]) :
    Go.Eng.Fn Tryd.prog ro 85 [.a (.ptr 0 0), .a (.int .i64 (n : Int))] [.cells [.str (bs L), .int .i64 (a : Int), .int .i64 e] 121 false] K := by
  have c1 : decide ((n : Int) < 1) = false := decide_eq_false (by omega)
  have c2 : decide ((n : Int) > 8) = false := decide_eq_false (by omega)
  refine Fn.weak ?_
  refine Fn.of 1 (gOf []) rfl Tryd.func85 rfl (Nat.le_of_ble_eq_true rfl) ?_
  conv => whnf
  repeat' ((first | (with_reducible refine y'b ‹_› ?_) | fail) <;> (conv => whnf))
  refine Fn.frame [0] (by rfl) (by exact ⟨rfl, trivial⟩) (by rfl) (rtake L a n e ha hL h8 (fun t ok a' e' ht => ?_))
  have hk := hK t ok a' e' ht
  have htl : t.length ≤ 8 := by
    rcases tk_cases ht with ⟨_, h, _⟩ | ⟨_, _, _, _, h, _⟩
    · rw [h]; decide
    · omega
  generalize bs L = s at *
  conv => whnf
  skip
  refine Fn.frame [] (by rfl) (by exact trivial) (by rfl) (high t htl ?_)
  conv => whnf
  skip
  exact keepOf (v₀ := .a (.int .u64 (hiN t : Nat))) [.cells [.str s, .int .i64 (a' : Nat), .int .i64 e'] 121 false] [0] rfl ⟨rfl, trivial⟩ rfl hk
/-- A float is read. -/
@[irreducible] def rf (L : List UInt8) (a : Nat) (e : Int) : Nat × Nat × Int :=
  let q := tk L a e 8
  if q.2.1 = true then (if isNan (hiN q.1) = true ∧ hiN q.1 ≠ 9221120237041090560 then (0, a, 4) else (hiN q.1, q.2.2.1, 0)) else (0, q.2.2.1, q.2.2.2)
theorem hi8_lt {t : List UInt8} (h : t.length = 8) : hiN t < 18446744073709551616 := by
  have := hiN_lt t
  rw [h] at this
  exact this
set_option maxHeartbeats 1000000 in
theorem rfloat (L : List UInt8) (a : Nat) (e : Int) (ha : a ≤ L.length) (hL : L.length ≤ 140737488351232) {K : V → Hp → Prop}
    (hK : ∀ v a' e', rf L a e = (v, a', e') → K (.a (.flt .f64 v)) [.cells [.str (bs L), .int .i64 (a' : Nat), .int .i64 e'] 121 false]) :
    Go.Eng.Fn Tryd.prog ro 49 [.a (.ptr 0 0)] [.cells [.str (bs L), .int .i64 (a : Int), .int .i64 e] 121 false] K := by
  refine Fn.weak ?_
  refine Fn.of 1 (gOf []) rfl Tryd.func49 rfl (Nat.le_of_ble_eq_true rfl) ?_
  conv => whnf
  refine Fn.frame [0] (by rfl) (by exact ⟨rfl, trivial⟩) (by rfl) (rtake L a 8 e ha hL (by decide) (fun t ok a' e' ht => ?_))
  rcases tk_cases ht with ⟨rfl, h1, rfl, h3⟩ | ⟨rfl, rfl, h2, h3, h4, rfl, rfl⟩
  · have hk := hK 0 a' e' (by unfold rf; rw [ht]; rfl)
    generalize bs L = s at *
    conv => whnf
    skip
    exact keepOf (v₀ := .a (.flt .f64 0)) [.cells [.str s, .int .i64 (a' : Nat), .int .i64 e'] 121 false] [0] rfl ⟨rfl, trivial⟩ rfl hk
  · obtain ⟨v, hv⟩ : ∃ v, v = hiN t := ⟨_, rfl⟩
    have ec : IntKind.i64.wrap (((a + 8 : Nat) : Int) - 8) = (a : Int) := by rw [i64w (by omega) (by omega)]; omega
    have hk1 : (isNan v = true ∧ v ≠ 9221120237041090560) → _ := fun h => hK 0 a 4 (by unfold rf; rw [ht]; simp only [if_true, ← hv]; rw [if_pos h])
    have hk2 : ¬ (isNan v = true ∧ v ≠ 9221120237041090560) → _ := fun h => hK v (a + 8) 0 (by unfold rf; rw [ht]; simp only [if_true, ← hv]; rw [if_neg h])
    clear hK
    generalize bs L = s at *
    conv => whnf
    skip
    refine Fn.frame [] (by rfl) (by exact trivial) (by rfl) (high t (by omega) ?_)
    rw [← hv]
    conv => whnf
    refine ext_from (by rfl) from_n from_f ?_
    rw [Int.toNat_natCast]
    conv => whnf
    skip
    refine Fn.frame [] (by rfl) (by exact trivial) (by rfl) (isnan v ?_)
    cases hn : isNan v with
    | false =>
      rw [hn] at hk2
      conv => whnf
      skip
      exact keepOf (v₀ := .a (.flt .f64 v)) [.cells [.str s, .int .i64 ((a + 8 : Nat) : Int), .int .i64 0] 121 false] [0] rfl ⟨rfl, trivial⟩ rfl (hk2 (by simp))
    | true =>
      rw [hn] at hk1 hk2
      conv => whnf
      skip
      refine Fn.frame [] (by rfl) (by exact trivial) (by rfl) (high t (by omega) ?_)
      rw [← hv]
      by_cases hq : v = 9221120237041090560
      · have c1 : ((v : Int) != 9221120237041090560) = false := by rw [hq]; rfl
        conv => whnf
        repeat' ((first | (with_reducible refine y'b ‹_› ?_) | fail) <;> (conv => whnf))
        exact keepOf (v₀ := .a (.flt .f64 v)) [.cells [.str s, .int .i64 ((a + 8 : Nat) : Int), .int .i64 0] 121 false] [0] rfl ⟨rfl, trivial⟩ rfl (hk2 (by simp [hq]))
      · have c1 : ((v : Int) != 9221120237041090560) = true := by simp; omega
        conv => whnf
        repeat' ((first | (with_reducible refine y'b ‹_› ?_) | fail) <;> (conv => whnf))
        rw [ec]
        conv => whnf
        skip
        exact keepOf (v₀ := .a (.flt .f64 0)) [.cells [.str s, .int .i64 (a : Int), .int .i64 4] 121 false] [0] rfl ⟨rfl, trivial⟩ rfl (hk1 ⟨rfl, hq⟩)
set_option maxHeartbeats 400000 in
theorem rerr (s : ByteArray) (a e : Int) {K : V → Hp → Prop} (hK : K (.a (.int .i64 e)) [.cells [.str s, .int .i64 a, .int .i64 e] 121 false]) :
    Go.Eng.Fn Tryd.prog ro 86 [.a (.ptr 0 0)] [.cells [.str s, .int .i64 a, .int .i64 e] 121 false] K := by
  refine Fn.weak ?_
  refine Fn.of 1 (gOf []) rfl Tryd.func86 rfl (Nat.le_of_ble_eq_true rfl) ?_
  conv => whnf
  skip
  exact keepOf (v₀ := .a (.int .i64 e)) [.cells [.str s, .int .i64 a, .int .i64 e] 121 false] [0] rfl ⟨rfl, trivial⟩ rfl hK
/-- The error, or that bytes are left. -/
@[irreducible] def rendP (n a : Nat) (e : Int) : Int := if e = 0 ∧ a < n then 12 else e
set_option maxHeartbeats 400000 in
theorem rend (L : List UInt8) (a : Nat) (e : Int) {K : V → Hp → Prop}
    (hK : K (.a (.int .i64 (rendP L.length a e))) [.cells [.str (bs L), .int .i64 (a : Int), .int .i64 e] 121 false]) :
    Go.Eng.Fn Tryd.prog ro 54 [.a (.ptr 0 0)] [.cells [.str (bs L), .int .i64 (a : Int), .int .i64 e] 121 false] K := by
  have hsz := bs_size L
  generalize bs L = s at *
  refine Fn.weak ?_
  refine Fn.of 1 h54 rfl Tryd.func54 rfl (Nat.le_of_ble_eq_true rfl) ?_
  by_cases h0 : e = 0
  · subst h0
    by_cases h1 : a < L.length
    · have c1 : decide ((a : Int) < (s.size : Int)) = true := decide_eq_true (by omega)
      have e1 : rendP L.length a 0 = 12 := by unfold rendP; rw [if_pos ⟨rfl, h1⟩]
      rw [e1] at hK
      conv => whnf
      repeat' ((first | ((with_reducible refine y'r ?_ ?_); (· decide +kernel)) | ((with_reducible refine y'g ?_ ?_); (· exact ⟨_, rfl⟩)) | (with_reducible refine y'b ‹_› ?_) | fail) <;> (conv => whnf))
      exact keepOf (v₀ := .a (.int .i64 12)) [.cells [.str s, .int .i64 (a : Int), .int .i64 0] 121 false] [0] rfl ⟨rfl, trivial⟩ rfl hK
    · have c1 : decide ((a : Int) < (s.size : Int)) = false := decide_eq_false (by omega)
      have e1 : rendP L.length a 0 = 0 := by unfold rendP; rw [if_neg (fun h => h1 h.2)]
      rw [e1] at hK
      conv => whnf
      repeat' ((first | ((with_reducible refine y'r ?_ ?_); (· decide +kernel)) | ((with_reducible refine y'g ?_ ?_); (· exact ⟨_, rfl⟩)) | (with_reducible refine y'b ‹_› ?_) | fail) <;> (conv => whnf))
      refine Fn.frame [0] (by rfl) (by exact ⟨rfl, trivial⟩) (by rfl) (rerr s a 0 ?_)
      conv => whnf
      skip
      exact keepOf (v₀ := .a (.int .i64 0)) [.cells [.str s, .int .i64 (a : Int), .int .i64 0] 121 false] [0] rfl ⟨rfl, trivial⟩ rfl hK
  · have c0 : (e == 0) = false := by simp [h0]
    have e1 : rendP L.length a e = e := by unfold rendP; rw [if_neg (fun h => h0 h.1)]
    rw [e1] at hK
    conv => whnf
    repeat' ((first | ((with_reducible refine y'r ?_ ?_); (· decide +kernel)) | ((with_reducible refine y'g ?_ ?_); (· exact ⟨_, rfl⟩)) | (with_reducible refine y'b ‹_› ?_) | fail) <;> (conv => whnf))
    refine Fn.frame [0] (by rfl) (by exact ⟨rfl, trivial⟩) (by rfl) (rerr s a e ?_)
    conv => whnf
    skip
    exact keepOf (v₀ := .a (.int .i64 e)) [.cells [.str s, .int .i64 (a : Int), .int .i64 e] 121 false] [0] rfl ⟨rfl, trivial⟩ rfl hK
end
end Go.Proofs.YtimddbgnaeeggaaDoor.KD
