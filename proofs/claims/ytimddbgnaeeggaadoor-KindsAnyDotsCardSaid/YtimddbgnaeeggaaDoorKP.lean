import Derived.Test.YtimddbgnaeeggaaDoorKO
namespace Go.Proofs.YtimddbgnaeeggaaDoor.KD
open Go.Eng
set_option maxRecDepth 100000
theorem ofI (x : Nat) (hx : x < 18446744073709551616) : (BitVec.ofInt IntKind.u64.bits (x : Int)).toNat = x := by
  show (BitVec.ofInt 64 (x : Int)).toNat = x
  rw [BitVec.toNat_ofInt]; omega
theorem not64 {x : Nat} (hx : x < 18446744073709551616) : (~~~ (BitVec.ofInt 64 (x : Int))).toNat = 18446744073709551615 - x := by
  rw [BitVec.toNat_not, BitVec.toNat_ofInt]
  omega
theorem xor_not {x : Nat} (hx : x < 18446744073709551616) : bitx .xor .u64 18446744073709551615 (x : Int) = ((18446744073709551615 - x : Nat) : Int) := by
  unfold bitx
  simp only
  have e1 : (BitVec.ofInt IntKind.u64.bits 18446744073709551615 : BitVec IntKind.u64.bits) = BitVec.allOnes IntKind.u64.bits := by decide
  have e2 : (~~~ (BitVec.ofInt IntKind.u64.bits (x : Int))).toNat = 18446744073709551615 - x := not64 hx
  rw [e1, BitVec.allOnes_xor, e2, u64w, Nat.mod_eq_of_lt (by omega)]
theorem or_63 {x : Nat} (hx : x < 9223372036854775808) : bitx .or .u64 (x : Int) 9223372036854775808 = ((x + 9223372036854775808 : Nat) : Int) := by
  unfold bitx
  simp only
  have e1 : (BitVec.ofInt IntKind.u64.bits 9223372036854775808).toNat = 9223372036854775808 := by decide
  have e2 : x ||| 9223372036854775808 = x + 9223372036854775808 := by
    have := Nat.two_pow_add_eq_or_of_lt (i := 63) (b := x) (by omega) 1
    rw [Nat.or_comm, Nat.add_comm]
    exact this.symm
  rw [BitVec.toNat_or, ofI x (by omega), e1, e2, u64w, Nat.mod_eq_of_lt (by omega)]
theorem shr63 (x : Nat) : (x : Int).fdiv (2 ^ min (Int.toNat 63) IntKind.u64.bits) = ((x / 9223372036854775808 : Nat) : Int) := fdivN x 9223372036854775808
/-- The text of a float; of a corner. -/
def rv (u : Nat) : List UInt8 := 2 :: be 8 u
def cv (u w : Nat) : List UInt8 := 5 :: (be 8 u ++ be 8 w)
theorem rv_inj {u w : Nat} (hu : Can u) (hw : Can w) (h : rv u = rv w) : u = w := by
  unfold rv at h
  exact be_inj hu.1 hw.1 (List.cons.inj h).2
theorem cv_inj {u w u' w' : Nat} (hu : Can u) (hw : Can w) (hu' : Can u') (hw' : Can w') (h : cv u w = cv u' w') : u = u' ∧ w = w' := by
  unfold cv at h
  have h2 := List.append_inj (List.cons.inj h).2 (by rw [be_length, be_length])
  exact ⟨be_inj hu.1 hu'.1 h2.1, be_inj hw.1 hw'.1 h2.2⟩
section
variable {ro : Addr → A → Prop}
set_option maxHeartbeats 1000000 in
theorem rank (x : Nat) (hx : x < 18446744073709551616) {K : V → Hp → Prop} (hK : K (.a (.int .u64 (rk x : Nat))) []) : Go.Eng.Fn Tryd.prog ro 111 [.a (.flt .f64 x)] [] K := by
  have ex : (!fEqK .f64 x x) = isNan x := by rw [fEq_self]; simp
  refine Fn.weak ?_
  refine Fn.of_code (gOf []) Tryd.func111 rfl (Nat.le_of_ble_eq_true rfl) ?_
  cases hn : isNan x with
  | true =>
    rw [hn] at ex
    rw [rk_nan hn] at hK
    conv => whnf
    repeat' ((first | (with_reducible refine y'b ‹_› ?_) | ((refine ext_bits (by rfl) bits_n bits_f ?_)) | fail) <;> (conv => whnf))
    exact keepOf (v₀ := .a (.int .u64 18446744073709551615)) [] [] rfl trivial rfl hK
  | false =>
    rw [hn] at ex
    by_cases h : 9223372036854775808 ≤ x
    · rw [rk_neg hn h] at hK
      have c1 : (((x / 9223372036854775808 : Nat) : Int) == 1) = true := by
        have : x / 9223372036854775808 = 1 := by omega
        rw [this]; rfl
      conv => whnf
      repeat' ((first | (with_reducible refine y'b ‹_› ?_) | ((refine ext_bits (by rfl) bits_n bits_f ?_)) | fail) <;> (conv => whnf))
      rw [shr63]
      conv => whnf
      repeat' ((first | (with_reducible refine y'b ‹_› ?_) | fail) <;> (conv => whnf))
      refine keepOf (v₀ := .a (.int .u64 ((18446744073709551615 - x : Nat) : Int))) [] [] (congrArg (fun z => V.a (.int .u64 z)) (xor_not hx)) trivial rfl hK
    · rw [rk_pos hn (by omega)] at hK
      have c1 : (((x / 9223372036854775808 : Nat) : Int) == 1) = false := by
        rw [Nat.div_eq_of_lt (by omega)]; rfl
      conv => whnf
      repeat' ((first | (with_reducible refine y'b ‹_› ?_) | ((refine ext_bits (by rfl) bits_n bits_f ?_)) | fail) <;> (conv => whnf))
      rw [shr63]
      conv => whnf
      repeat' ((first | (with_reducible refine y'b ‹_› ?_) | fail) <;> (conv => whnf))
      refine keepOf (v₀ := .a (.int .u64 ((x + 9223372036854775808 : Nat) : Int))) [] [] (congrArg (fun z => V.a (.int .u64 z)) (or_63 (by omega))) trivial rfl hK
set_option maxHeartbeats 1000000 in
theorem notNan (n : Int) {K : V → Hp → Prop} (hK : K (.a (.bool false)) []) : Go.Eng.Fn Tryd.prog ro 131 [.a (.int .u64 n)] [] K := by
  have c0 : (n != n) = false := by simp
  refine Fn.weak ?_
  refine Fn.of_code (gOf []) Tryd.func131 rfl (Nat.le_of_ble_eq_true rfl) ?_
  conv => whnf
  skip
  exact keepOf (v₀ := .a (.bool false)) [] [] (congrArg (fun b => V.a (.bool b)) c0) trivial rfl hK
set_option maxHeartbeats 1000000 in
theorem compare (a b : Nat) {K : V → Hp → Prop} (hK : ∀ c : Int, (decide (c > 0) = decide (b < a)) → K (.a (.int .i64 c)) []) : Go.Eng.Fn Tryd.prog ro 110 [.a (.int .u64 (a : Int)), .a (.int .u64 (b : Int))] [] K := by
  refine Fn.weak ?_
  refine Fn.of_code (gOf []) Tryd.func110 rfl (Nat.le_of_ble_eq_true rfl) ?_
  conv => whnf
  skip
  refine Fn.frame [] (by rfl) (by exact trivial) (by rfl) (notNan _ ?_)
  conv => whnf
  skip
  refine Fn.frame [] (by rfl) (by exact trivial) (by rfl) (notNan _ ?_)
  conv => whnf
  skip
  by_cases h1 : a < b
  · have c1 : decide ((a : Int) < (b : Int)) = true := decide_eq_true (by omega)
    conv => whnf
    repeat' ((first | (with_reducible refine y'b ‹_› ?_) | fail) <;> (conv => whnf))
    exact keepOf (v₀ := .a (.int .i64 (-1))) [] [] rfl trivial rfl (hK _ (by rw [decide_eq_false (show ¬ b < a by omega)]; rfl))
  · have c1 : decide ((a : Int) < (b : Int)) = false := decide_eq_false (by omega)
    by_cases h2 : b < a
    · have c2 : decide ((a : Int) > (b : Int)) = true := decide_eq_true (by omega)
      conv => whnf
      repeat' ((first | (with_reducible refine y'b ‹_› ?_) | fail) <;> (conv => whnf))
      exact keepOf (v₀ := .a (.int .i64 1)) [] [] rfl trivial rfl (hK _ (by rw [decide_eq_true h2]; rfl))
    · have c2 : decide ((a : Int) > (b : Int)) = false := decide_eq_false (by omega)
      conv => whnf
      repeat' ((first | (with_reducible refine y'b ‹_› ?_) | fail) <;> (conv => whnf))
      exact keepOf (v₀ := .a (.int .i64 0)) [] [] rfl trivial rfl (hK _ (by rw [decide_eq_false h2]; rfl))
set_option maxHeartbeats 1000000 in
theorem greater (x y : Nat) (hx : x < 18446744073709551616) (hy : y < 18446744073709551616) {K : V → Hp → Prop} (hK : K (.a (.flt .f64 (gt x y))) []) : Go.Eng.Fn Tryd.prog ro 80 [.a (.flt .f64 x), .a (.flt .f64 y)] [] K := by
  unfold gt at hK
  refine Fn.weak ?_
  refine Fn.of_code (gOf []) Tryd.func80 rfl (Nat.le_of_ble_eq_true rfl) ?_
  conv => whnf
  skip
  refine Fn.frame [] (by rfl) (by exact trivial) (by rfl) (rank x hx ?_)
  conv => whnf
  skip
  refine Fn.frame [] (by rfl) (by exact trivial) (by rfl) (rank y hy ?_)
  conv => whnf
  skip
  refine Fn.frame [] (by rfl) (by exact trivial) (by rfl) (compare (rk x) (rk y) (fun c hc => ?_))
  by_cases h : rk y < rk x
  · rw [if_pos h] at hK
    rw [decide_eq_true h] at hc
    conv => whnf
    repeat' ((first | (with_reducible refine y'b ‹_› ?_) | fail) <;> (conv => whnf))
    exact keepOf (v₀ := .a (.flt .f64 x)) [] [] rfl trivial rfl hK
  · rw [if_neg h] at hK
    rw [decide_eq_false h] at hc
    conv => whnf
    repeat' ((first | (with_reducible refine y'b ‹_› ?_) | fail) <;> (conv => whnf))
    exact keepOf (v₀ := .a (.flt .f64 y)) [] [] rfl trivial rfl hK
set_option maxHeartbeats 1000000 in
theorem both_real (u w : Nat) (hu : Can u) (hw : Can w) {K : V → Hp → Prop} (hK : K (.a (.str (bs (rv (gt u w))))) []) : Go.Eng.Fn Tryd.prog ro 47 [.a (.str (bs (rv u))), .a (.str (bs (rv w)))] [] K := by
  have k1 := @asreal ro u hu.1 hu.2
  have k2 := @asreal ro w hw.1 hw.2
  have hg := can_gt hu hw
  have k3 := @real6 ro (gt u w) hg.1
  rw [fbytes_one, can_fb hg] at k3
  have g0 : byteAt (bs (rv u)) 0 = some 2 := byteAt_bs (i := 0) rfl
  have e1 : bs (2 :: be 8 u) = bs (rv u) := rfl
  have e2 : bs (2 :: be 8 w) = bs (rv w) := rfl
  have e3 : bs ([2] ++ be 8 (gt u w)) = bs (rv (gt u w)) := rfl
  rw [e1] at k1
  rw [e2] at k2
  rw [e3] at k3
  generalize bs (rv u) = a at *
  generalize bs (rv w) = b at *
  generalize bs (rv (gt u w)) = c at *
  refine Fn.weak ?_
  refine Fn.of_code (gOf []) Tryd.func47 rfl (Nat.le_of_ble_eq_true rfl) ?_
  conv => whnf
  repeat' ((first | ((with_reducible apply y'o); (· first | exact g0 | exact g1 | exact g2)) | fail) <;> (conv => whnf))
  refine Fn.frame [] (by rfl) (by exact trivial) (by rfl) (k1 ?_)
  conv => whnf
  skip
  refine Fn.frame [] (by rfl) (by exact trivial) (by rfl) (k2 ?_)
  conv => whnf
  skip
  refine Fn.frame [] (by rfl) (by exact trivial) (by rfl) (greater u w hu.1 hw.1 ?_)
  conv => whnf
  skip
  refine Fn.frame [] (by rfl) (by exact trivial) (by rfl) (k3 ?_)
  conv => whnf
  skip
  exact keepOf (v₀ := .a (.str c)) [] [] rfl trivial rfl hK
set_option maxHeartbeats 1000000 in
theorem both_corner (u w u' w' : Nat) (hu : Can u) (hw : Can w) (hu' : Can u') (hw' : Can w') {K : V → Hp → Prop} (hK : K (.a (.str (bs (cv (gt u u') (gt w w'))))) []) : Go.Eng.Fn Tryd.prog ro 47 [.a (.str (bs (cv u w))), .a (.str (bs (cv u' w')))] [] K := by
  have k1 := @ascorner ro u w hu.1 hu.2 hw.1 hw.2
  have k2 := @ascorner ro u' w' hu'.1 hu'.2 hw'.1 hw'.2
  have hg := can_gt hu hu'
  have hg' := can_gt hw hw'
  have k3 := @corner7 ro (gt u u') (gt w w') hg.1 hg'.1
  rw [fbytes_two, can_fb hg, can_fb hg'] at k3
  have g0 : byteAt (bs (cv u w)) 0 = some 5 := byteAt_bs (i := 0) rfl
  have e1 : bs (5 :: (be 8 u ++ be 8 w)) = bs (cv u w) := rfl
  have e2 : bs (5 :: (be 8 u' ++ be 8 w')) = bs (cv u' w') := rfl
  have e3 : bs ([5] ++ (be 8 (gt u u') ++ be 8 (gt w w'))) = bs (cv (gt u u') (gt w w')) := rfl
  rw [e1] at k1
  rw [e2] at k2
  rw [e3] at k3
  generalize bs (cv u w) = a at *
  generalize bs (cv u' w') = b at *
  generalize bs (cv (gt u u') (gt w w')) = c at *
  refine Fn.weak ?_
  refine Fn.of_code (gOf []) Tryd.func47 rfl (Nat.le_of_ble_eq_true rfl) ?_
  conv => whnf
  repeat' ((first | ((with_reducible apply y'o); (· first | exact g0 | exact g1 | exact g2)) | fail) <;> (conv => whnf))
  refine Fn.frame [] (by rfl) (by exact trivial) (by rfl) (k1 ?_)
  conv => whnf
  skip
  refine Fn.frame [] (by rfl) (by exact trivial) (by rfl) (k2 ?_)
  conv => whnf
  skip
  refine Fn.frame [] (by rfl) (by exact trivial) (by rfl) (greater u u' hu.1 hu'.1 ?_)
  conv => whnf
  skip
  refine Fn.frame [] (by rfl) (by exact trivial) (by rfl) (greater w w' hw.1 hw'.1 ?_)
  conv => whnf
  skip
  refine Fn.frame [] (by rfl) (by exact trivial) (by rfl) (k3 ?_)
  conv => whnf
  skip
  exact keepOf (v₀ := .a (.str c)) [] [] rfl trivial rfl hK
set_option maxHeartbeats 1000000 in
theorem join_real (u w : Nat) (hu : Can u) (hw : Can w) {K : V → Hp → Prop} (hK : K (.t [.a (.str (bs (rv (gt u w)))), .a (.int .i64 0)]) []) : Go.Eng.Fn Tryd.prog ro 17 [.a (.str (bs (rv u))), .a (.str (bs (rv w)))] [] K := by
  have k1 := @kind_realV ro u hu.1 hu.2
  have k2 := @kind_realV ro w hw.1 hw.2
  have k3 := @both_real ro u w hu hw
  have e1 : bs (2 :: be 8 u) = bs (rv u) := rfl
  have e2 : bs (2 :: be 8 w) = bs (rv w) := rfl
  rw [e1] at k1
  rw [e2] at k2
  have sc : (bs (rv (gt u w))).size = 9 := by rw [bs_size]; unfold rv; rw [List.length_cons, be_length]
  generalize bs (rv u) = a at *
  generalize bs (rv w) = b at *
  generalize bs (rv (gt u w)) = c at *
  have c1 : decide ((c.size : Int) > 40) = false := decide_eq_false (by omega)
  refine Fn.weak ?_
  refine Fn.of_code (gOf []) Tryd.func17 rfl (Nat.le_of_ble_eq_true rfl) ?_
  conv => whnf
  skip
  refine Fn.frame [] (by rfl) (by exact trivial) (by rfl) (k1 ?_)
  conv => whnf
  skip
  refine Fn.frame [] (by rfl) (by exact trivial) (by rfl) (k2 ?_)
  conv => whnf
  skip
  refine Fn.frame [] (by rfl) (by exact trivial) (by rfl) (k3 ?_)
  conv => whnf
  repeat' ((first | (with_reducible refine y'b ‹_› ?_) | fail) <;> (conv => whnf))
  exact keepOf (v₀ := .t [.a (.str c), .a (.int .i64 0)]) [] [] rfl trivial rfl hK
set_option maxHeartbeats 1000000 in
theorem join_corner (u w u' w' : Nat) (hu : Can u) (hw : Can w) (hu' : Can u') (hw' : Can w') {K : V → Hp → Prop} (hK : K (.t [.a (.str (bs (cv (gt u u') (gt w w')))), .a (.int .i64 0)]) []) : Go.Eng.Fn Tryd.prog ro 17 [.a (.str (bs (cv u w))), .a (.str (bs (cv u' w')))] [] K := by
  have k1 := @kind_cornerV ro u w hu.1 hu.2 hw.1 hw.2
  have k2 := @kind_cornerV ro u' w' hu'.1 hu'.2 hw'.1 hw'.2
  have k3 := @both_corner ro u w u' w' hu hw hu' hw'
  have e1 : bs (5 :: (be 8 u ++ be 8 w)) = bs (cv u w) := rfl
  have e2 : bs (5 :: (be 8 u' ++ be 8 w')) = bs (cv u' w') := rfl
  rw [e1] at k1
  rw [e2] at k2
  have sc : (bs (cv (gt u u') (gt w w'))).size = 17 := by rw [bs_size]; unfold cv; rw [List.length_cons, List.length_append, be_length, be_length]
  generalize bs (cv u w) = a at *
  generalize bs (cv u' w') = b at *
  generalize bs (cv (gt u u') (gt w w')) = c at *
  have c1 : decide ((c.size : Int) > 40) = false := decide_eq_false (by omega)
  refine Fn.weak ?_
  refine Fn.of_code (gOf []) Tryd.func17 rfl (Nat.le_of_ble_eq_true rfl) ?_
  conv => whnf
  skip
  refine Fn.frame [] (by rfl) (by exact trivial) (by rfl) (k1 ?_)
  conv => whnf
  skip
  refine Fn.frame [] (by rfl) (by exact trivial) (by rfl) (k2 ?_)
  conv => whnf
  skip
  refine Fn.frame [] (by rfl) (by exact trivial) (by rfl) (k3 ?_)
  conv => whnf
  repeat' ((first | (with_reducible refine y'b ‹_› ?_) | fail) <;> (conv => whnf))
  exact keepOf (v₀ := .t [.a (.str c), .a (.int .i64 0)]) [] [] rfl trivial rfl hK
theorem beq_bs (L M : List UInt8) (b : Bool) (h : (L = M) ↔ b = true) : ((bs L).data.toList == (bs M).data.toList) = b := by
  show (L == M) = b
  cases b with
  | true => rw [h.2 rfl]; simp
  | false =>
    have : L ≠ M := fun e => by have := h.1 e; cases this
    simp [this]
end
theorem real6v (ro : Addr → A → Prop) (x : Nat) (hx : x < 18446744073709551616) {K : V → Hp → Prop} (hK : K (.a (.str (bs (rv (fbits x))))) []) : Go.Eng.Fn Tryd.prog ro 14 [.a (.flt .f64 x)] [] K := by
  refine real6 x hx ?_
  rw [fbytes_one]
  exact hK
theorem corner7v (ro : Addr → A → Prop) (x y : Nat) (hx : x < 18446744073709551616) (hy : y < 18446744073709551616) {K : V → Hp → Prop} (hK : K (.a (.str (bs (cv (fbits x) (fbits y))))) []) : Go.Eng.Fn Tryd.prog ro 16 [.a (.cpx .f64 x y)] [] K := by
  refine corner7 x y hx hy ?_
  rw [fbytes_two]
  exact hK
theorem sameB_self (z : Nat) : sameB z z = true := by
  unfold sameB
  cases isNan z <;> simp
end Go.Proofs.YtimddbgnaeeggaaDoor.KD
