import Derived.Test.YtimddbgnaeeggaaDoorKK
namespace Go.Proofs.YtimddbgnaeeggaaDoor.KD
open Go.Eng
set_option maxRecDepth 100000
theorem rf_be {u : Nat} (hu : u < 18446744073709551616) (hn : isNan u = true → u = 9221120237041090560) : rf (be 8 u) 0 0 = (u, 8, 0) := by
  refine rf_of (by rw [be_length]; decide) ?_ hn
  rw [List.drop_zero, List.take_of_length_le (by rw [be_length]; decide), hiN_be]
  exact (Nat.mod_eq_of_lt hu).symm
theorem rf_be1 {u w : Nat} (hu : u < 18446744073709551616) (hn : isNan u = true → u = 9221120237041090560) : rf (be 8 u ++ be 8 w) 0 0 = (u, 8, 0) := by
  refine rf_of (by rw [List.length_append, be_length, be_length]; decide) ?_ hn
  rw [List.drop_zero, List.take_left' (be_length 8 u), hiN_be]
  exact (Nat.mod_eq_of_lt hu).symm
theorem rf_be2 {u w : Nat} (hu : w < 18446744073709551616) (hn : isNan w = true → w = 9221120237041090560) : rf (be 8 u ++ be 8 w) 8 0 = (w, 16, 0) := by
  refine rf_of (by rw [List.length_append, be_length, be_length]; decide) ?_ hn
  rw [List.drop_left' (be_length 8 u), List.take_of_length_le (by rw [be_length]; decide), hiN_be]
  exact (Nat.mod_eq_of_lt hu).symm
theorem rend_ok {n : Nat} : rendP n n 0 = 0 := by unfold rendP; rw [if_neg (fun h => Nat.lt_irrefl _ h.2)]
/-- The same float, any NaN for any. -/
@[irreducible] def sameB (x y : Nat) : Bool := if isNan x || isNan y then isNan x && isNan y else decide (x = y)
theorem sameB_fbits (x : Nat) : sameB (fbits x) x = true := by
  unfold sameB
  cases hn : isNan x with
  | true => rw [fbits_nan hn, quiet_nan]; rfl
  | false => rw [fbits_num hn, hn]; simp
theorem bs_ext {L : List UInt8} {b : UInt8} : (bs (b :: L)).extract (Int.toNat 1) (bs (b :: L)).size = bs L := by
  rw [bs_extract, bs_size]
  congr 1
  show List.take ((b :: L).length - 1) (List.drop 1 (b :: L)) = L
  rw [List.drop_succ_cons, List.drop_zero, List.length_cons, Nat.add_sub_cancel, List.take_of_length_le (Nat.le_refl _)]
section
variable {ro : Addr → A → Prop}
set_option maxHeartbeats 1000000 in
theorem kind_realV (u : Nat) (hu : u < 18446744073709551616) (hn : isNan u = true → u = 9221120237041090560) {K : V → Hp → Prop} (hK : K (.a (.int .u8 2)) []) :
    Go.Eng.Fn Tryd.prog ro 24 [.a (.str (bs (2 :: be 8 u)))] [] K := by
  refine kind_real (be 8 u) (by rw [be_length]; decide) (fun v a e hv k hk => ?_)
  rw [rf_be hu hn] at hv
  injection hv with _ hv; injection hv with h1 h2
  rw [← h1, ← h2, be_length, rend_ok, if_pos rfl] at hk
  rw [hk]
  exact hK
set_option maxHeartbeats 1000000 in
theorem kind_cornerV (u w : Nat) (hu : u < 18446744073709551616) (hn : isNan u = true → u = 9221120237041090560) (hw : w < 18446744073709551616) (hnw : isNan w = true → w = 9221120237041090560) {K : V → Hp → Prop} (hK : K (.a (.int .u8 5)) []) :
    Go.Eng.Fn Tryd.prog ro 24 [.a (.str (bs (5 :: (be 8 u ++ be 8 w))))] [] K := by
  have hl : (be 8 u ++ be 8 w).length = 16 := by rw [List.length_append, be_length, be_length]
  refine kind_corner (be 8 u ++ be 8 w) (by rw [hl]; decide) (fun v a e hv v' a' e' hv' k hk => ?_)
  rw [rf_be1 hu hn] at hv
  injection hv with _ hv; injection hv with h1 h2
  rw [← h1, ← h2, rf_be2 hw hnw] at hv'
  injection hv' with _ hv'; injection hv' with h1 h2
  rw [← h1, ← h2, hl, rend_ok, if_pos rfl] at hk
  rw [hk]
  exact hK
set_option maxHeartbeats 1000000 in
theorem asreal (u : Nat) (hu : u < 18446744073709551616) (hn : isNan u = true → u = 9221120237041090560) {K : V → Hp → Prop} (hK : K (.t [.a (.flt .f64 u), .a (.int .i64 0)]) []) :
    Go.Eng.Fn Tryd.prog ro 18 [.a (.str (bs (2 :: be 8 u)))] [] K := by
  have hx := bs_ext (L := be 8 u) (b := 2)
  have hsz := bs_size (2 :: be 8 u)
  rw [List.length_cons, be_length] at hsz
  have hkv := @kind_realV ro u hu hn
  generalize bs (2 :: be 8 u) = s at *
  have c2 : decide ((0 : Int) ≤ 1 ∧ (1 : Int) ≤ (s.size : Int)) = true := decide_eq_true (by omega)
  refine Fn.weak ?_
  refine Fn.of_code (gOf []) Tryd.func18 rfl (Nat.le_of_ble_eq_true rfl) ?_
  conv => whnf
  skip
  refine Fn.frame [] (by rfl) (by exact trivial) (by rfl) (hkv ?_)
  conv => whnf
  repeat' ((first | (with_reducible refine y'b ‹_› ?_) | fail) <;> (conv => whnf))
  rw [hx]
  refine Fn.frame [] (by rfl) (by exact trivial) (by rfl) (newReader (be 8 u) ?_)
  conv => whnf
  skip
  refine Fn.frame [0] (by rfl) (by exact ⟨rfl, trivial⟩) (by rfl) (rfloat (be 8 u) 0 0 (Nat.zero_le _) (by rw [be_length]; decide) (fun v a e hv => ?_))
  rw [rf_be hu hn] at hv
  injection hv with h0 hv; injection hv with h1 h2
  subst h0 h1 h2
  conv => whnf
  skip
  exact keepOf (v₀ := .t [.a (.flt .f64 u), .a (.int .i64 0)]) [] [] rfl trivial rfl hK
set_option maxHeartbeats 1000000 in
theorem ascorner (u w : Nat) (hu : u < 18446744073709551616) (hn : isNan u = true → u = 9221120237041090560) (hw : w < 18446744073709551616) (hnw : isNan w = true → w = 9221120237041090560) {K : V → Hp → Prop} (hK : K (.t [.a (.cpx .f64 u w), .a (.int .i64 0)]) []) :
    Go.Eng.Fn Tryd.prog ro 19 [.a (.str (bs (5 :: (be 8 u ++ be 8 w))))] [] K := by
  have hl : (be 8 u ++ be 8 w).length = 16 := by rw [List.length_append, be_length, be_length]
  have hx := bs_ext (L := be 8 u ++ be 8 w) (b := 5)
  have hsz := bs_size (5 :: (be 8 u ++ be 8 w))
  rw [List.length_cons, hl] at hsz
  have hkv := @kind_cornerV ro u w hu hn hw hnw
  generalize bs (5 :: (be 8 u ++ be 8 w)) = s at *
  have c2 : decide ((0 : Int) ≤ 1 ∧ (1 : Int) ≤ (s.size : Int)) = true := decide_eq_true (by omega)
  refine Fn.weak ?_
  refine Fn.of_code (gOf []) Tryd.func19 rfl (Nat.le_of_ble_eq_true rfl) ?_
  conv => whnf
  skip
  refine Fn.frame [] (by rfl) (by exact trivial) (by rfl) (hkv ?_)
  conv => whnf
  repeat' ((first | (with_reducible refine y'b ‹_› ?_) | fail) <;> (conv => whnf))
  rw [hx]
  refine Fn.frame [] (by rfl) (by exact trivial) (by rfl) (newReader (be 8 u ++ be 8 w) ?_)
  conv => whnf
  skip
  refine Fn.frame [0] (by rfl) (by exact ⟨rfl, trivial⟩) (by rfl) (rfloat (be 8 u ++ be 8 w) 0 0 (Nat.zero_le _) (by rw [hl]; decide) (fun v a e hv => ?_))
  rw [rf_be1 hu hn] at hv
  injection hv with h0 hv; injection hv with h1 h2
  subst h0 h1 h2
  conv => whnf
  skip
  refine Fn.frame [0] (by rfl) (by exact ⟨rfl, trivial⟩) (by rfl) (rfloat (be 8 u ++ be 8 w) 8 0 (by rw [hl]; decide) (by rw [hl]; decide) (fun v a e hv => ?_))
  rw [rf_be2 hw hnw] at hv
  injection hv with h0 hv; injection hv with h1 h2
  subst h0 h1 h2
  conv => whnf
  skip
  exact keepOf (v₀ := .t [.a (.cpx .f64 u w), .a (.int .i64 0)]) [] [] rfl trivial rfl hK
set_option maxHeartbeats 1000000 in
theorem same11 (x y : Nat) {K : V → Hp → Prop} (hK : K (.a (.bool (sameB x y))) []) :
    Go.Eng.Fn Tryd.prog ro 20 [.a (.flt .f64 x), .a (.flt .f64 y)] [] K := by
  have ex : (!fEqK .f64 x x) = isNan x := by rw [fEq_self]; simp
  have ey : (!fEqK .f64 y y) = isNan y := by rw [fEq_self]; simp
  refine Fn.weak ?_
  refine Fn.of_code (gOf []) Tryd.func20 rfl (Nat.le_of_ble_eq_true rfl) ?_
  cases hx : isNan x with
  | true =>
    rw [hx] at ex
    cases hy : isNan y with
    | true =>
      rw [hy] at ey
      have e : sameB x y = true := by unfold sameB; rw [hx, hy]; rfl
      conv => whnf
      repeat' ((first | (with_reducible refine y'b ‹_› ?_) | fail) <;> (conv => whnf))
      exact keepOf (v₀ := .a (.bool (sameB x y))) [] [] (congrArg (fun b => V.a (.bool b)) (by rw [e, ey])) trivial rfl hK
    | false =>
      rw [hy] at ey
      have e : sameB x y = false := by unfold sameB; rw [hx, hy]; rfl
      conv => whnf
      repeat' ((first | (with_reducible refine y'b ‹_› ?_) | fail) <;> (conv => whnf))
      exact keepOf (v₀ := .a (.bool (sameB x y))) [] [] (congrArg (fun b => V.a (.bool b)) (by rw [e, ey])) trivial rfl hK
  | false =>
    rw [hx] at ex
    cases hy : isNan y with
    | true =>
      rw [hy] at ey
      have e : sameB x y = false := by unfold sameB; rw [hx, hy]; rfl
      conv => whnf
      repeat' ((first | (with_reducible refine y'b ‹_› ?_) | fail) <;> (conv => whnf))
      exact keepOf (v₀ := .a (.bool (sameB x y))) [] [] (congrArg (fun b => V.a (.bool b)) e.symm) trivial rfl hK
    | false =>
      rw [hy] at ey
      have e : sameB x y = ((x : Int) == (y : Int)) := by
        unfold sameB; rw [hx, hy]
        by_cases h : x = y
        · simp [h]
        · simp [h]; omega
      conv => whnf
      repeat' ((first | (with_reducible refine y'b ‹_› ?_) | ((refine ext_bits (by rfl) bits_n bits_f ?_)) | fail) <;> (conv => whnf))
      exact keepOf (v₀ := .a (.bool (sameB x y))) [] [] (congrArg (fun b => V.a (.bool b)) e.symm) trivial rfl hK
/-! ### The document's answer. -/
set_option maxHeartbeats 1000000 in
theorem refBits (x : Nat) {K : V → Hp → Prop} (hK : K (.a (.int .u64 (fbits x : Nat))) []) :
    Go.Eng.Fn Tryd.prog ro 113 [.a (.flt .f64 x)] [] K := by
  have ex : (!fEqK .f64 x x) = isNan x := by rw [fEq_self]; simp
  refine Fn.weak ?_
  refine Fn.of_code (gOf []) Tryd.func113 rfl (Nat.le_of_ble_eq_true rfl) ?_
  cases hx : isNan x with
  | true =>
    rw [hx] at ex
    rw [fbits_nan hx] at hK
    conv => whnf
    repeat' ((first | (with_reducible refine y'b ‹_› ?_) | fail) <;> (conv => whnf))
    exact keepOf (v₀ := .a (.int .u64 9221120237041090560)) [] [] rfl trivial rfl hK
  | false =>
    rw [hx] at ex
    rw [fbits_num hx] at hK
    conv => whnf
    repeat' ((first | (with_reducible refine y'b ‹_› ?_) | ((refine ext_bits (by rfl) bits_n bits_f ?_)) | fail) <;> (conv => whnf))
    exact keepOf (v₀ := .a (.int .u64 (x : Nat))) [] [] rfl trivial rfl hK
theorem tmod256 (v : Nat) : IntKind.u8.wrap ((v : Int).tmod 256) = ((UInt8.ofNat v).toNat : Int) := by
  have : (v : Int).tmod 256 = ((v % 256 : Nat) : Int) := tmodN v 256
  rw [this, wrap8, b8_ofNat]
  congr 1
  simp
set_option maxHeartbeats 1000000 in
theorem refFixed (v n : Nat) (h1 : 1 ≤ n) (h8 : n ≤ 8) (hv : v < 18446744073709551616) {K : V → Hp → Prop} (hK : K (.a (.str (bs (be n v)))) []) :
    Go.Eng.Fn Tryd.prog ro 88 [.a (.int .u64 (v : Int)), .a (.int .i64 (n : Int))] [] K := by
  have c3 : mkOK (n : Int) (n : Int) Tryd.prog.types[5].bytes = true := mkOK_of (by rw [b5]; omega)
  have e0 : IntKind.i64.wrap ((n : Int) - 1) = (n : Int) - 1 := i64w (by omega) (by omega)
  refine Fn.weak ?_
  refine Fn.of_code (gOf []) Tryd.func88 rfl (Nat.le_of_ble_eq_true rfl) ?_
  conv => whnf
  repeat' ((first | (with_reducible refine y'b ‹_› ?_) | fail) <;> (conv => whnf))
  refine y'f (l' := u8s (List.replicate n 0)) (by rw [s5, Nat.mul_one, Int.toNat_natCast]; exact repl_u8 n) (fun cs hcs => ?_)
  conv => whnf
  skip
  rw [e0, Int.toNat_natCast]
  conv => whnf
  skip
  refine loopx_of (fun r F H => ∃ (w : Nat) (cs : List A), r ≤ n ∧ w = v / 256 ^ (n - r) ∧ cs = u8s (List.replicate r 0 ++ be (n - r) v) ∧ F = [(0, .a (.int .u64 (w : Int))), (5, .a (.slc 0 0 n n)), (6, .a (.int .i64 ((r : Int) - 1)))] ∧ H = [.cells cs 5 false]) n ?_ ?_
  · exact Into.weak [0] [(0, .a (.int .u64 (v : Int))), (5, .a (.slc 0 0 n n)), (6, .a (.int .i64 ((n : Int) - 1)))] [.cells cs 5 false] ⟨v, cs, Nat.le_refl _, by rw [Nat.sub_self, Nat.pow_zero, Nat.div_one], by rw [Nat.sub_self, be_0, List.append_nil]; exact hcs, rfl, rfl⟩ ⟨rfl, rfl, rfl, trivial⟩ ⟨ren_fv hcs _ _ _, trivial⟩ (by simp [nodupb, baseb, Ob.okb, frmOk, V.okb, A.okb, all_fv hcs] <;> decide)
  · clear hcs cs
    rintro r F H ⟨w, cs, hr, hw, hcs, rfl, rfl⟩
    cases r with
    | zero =>
      have c9 : decide (((0 : Nat) : Int) - 1 ≥ 0) = false := by decide
      rw [Nat.sub_zero, List.replicate_zero, List.nil_append] at hcs
      have hcl : cs.length = n := by rw [hcs, u8s_length, be_length]
      conv => whnf
      repeat' ((first | ((with_reducible refine y'n ?_ ?_); (· first | assumption | exact decide_eq_true (by omega) | decide +kernel)) | fail) <;> (conv => whnf))
      refine y'v (x := be n v) (by rw [Nat.zero_add, List.drop_zero, List.take_of_length_le (by omega), hcs]; exact bytesOf_u8s _) (fun b hb => ?_)
      conv => whnf
      skip
      exact keepOf (v₀ := .a (.str (bs b))) [] [] rfl trivial rfl (by rw [hb]; exact hK)
    | succ r =>
      have ek : ((r + 1 : Nat) : Int) - 1 = (r : Int) := by omega
      have ek2 : IntKind.i64.wrap ((r : Int) - 1) = (r : Int) - 1 := i64w (by omega) (by omega)
      have c9 : decide ((r : Int) ≥ 0) = true := decide_eq_true (by omega)
      have c8 : decide (0 ≤ (r : Int) ∧ (r : Int) < (n : Int)) = true := decide_eq_true (by omega)
      have hcl : cs.length = n := by rw [hcs, u8s_length, List.length_append, List.length_replicate, be_length]; omega
      have ew : IntKind.u64.wrap ((w : Int).tdiv 256) = ((w / 256 : Nat) : Int) := by
        have : (w : Int).tdiv 256 = ((w / 256 : Nat) : Int) := tdivN w 256
        have hlt : w ≤ v := by rw [hw]; exact Nat.div_le_self _ _
        rw [this, u64w, Nat.mod_eq_of_lt (by omega)]
      have hns : n - r = (n - (r + 1)) + 1 := by omega
      have hw' : w / 256 = v / 256 ^ (n - r) := by rw [hw, hns, Nat.pow_succ, Nat.div_div_eq_div_mul]
      rw [ek]
      conv => whnf
      repeat' ((first | (with_reducible first | refine y'b ‹_› ?_ | refine y'3 ?_) | fail) <;> (conv => whnf))
      rw [tmod256]
      refine y'n (by simp [s5, hcl]; omega) ?_
      conv => whnf
      refine y'f (fv_set hcs (b := UInt8.ofNat w) rfl) (fun cs2 hcs2 => ?_)
      have hcs3 : cs2 = u8s (List.replicate r 0 ++ be (n - r) v) := by
        rw [hcs2, hns, be_s, ← hw, s5, Int.toNat_natCast, Nat.mul_one, Nat.zero_add, List.replicate_succ', List.append_assoc, List.set_append_right _ _ (by simp), List.length_replicate, Nat.sub_self]
        rfl
      conv => whnf
      skip
      rw [ew]
      exact ⟨r, by omega, Into.weak [0] [(0, .a (.int .u64 ((w / 256 : Nat) : Int))), (5, .a (.slc 0 0 n n)), (6, .a (.int .i64 ((r : Int) - 1)))] [.cells cs2 5 false] ⟨w / 256, cs2, by omega, hw', hcs3, rfl, rfl⟩ ⟨rfl, rfl, congrArg (fun z => some (V.a (.int .i64 z))) ek2, trivial⟩ ⟨ren_fv hcs3 _ _ _, trivial⟩ (by simp [nodupb, baseb, Ob.okb, frmOk, V.okb, A.okb, all_fv hcs3] <;> decide)⟩
set_option maxHeartbeats 1000000 in
theorem refFloat (x : Nat) (hx : x < 18446744073709551616) {K : V → Hp → Prop} (hK : K (.a (.str (bs (be 8 (fbits x))))) []) :
    Go.Eng.Fn Tryd.prog ro 87 [.a (.flt .f64 x)] [] K := by
  refine Fn.weak ?_
  refine Fn.of_code (gOf []) Tryd.func87 rfl (Nat.le_of_ble_eq_true rfl) ?_
  conv => whnf
  skip
  refine Fn.frame [] (by rfl) (by exact trivial) (by rfl) (refBits x ?_)
  conv => whnf
  skip
  refine Fn.frame [] (by rfl) (by exact trivial) (by rfl) (refFixed (fbits x) 8 (by decide) (by decide) (fbits_lt hx) ?_)
  conv => whnf
  skip
  exact keepOf (v₀ := .a (.str (bs (be 8 (fbits x))))) [] [] rfl trivial rfl hK
end
end Go.Proofs.YtimddbgnaeeggaaDoor.KD
