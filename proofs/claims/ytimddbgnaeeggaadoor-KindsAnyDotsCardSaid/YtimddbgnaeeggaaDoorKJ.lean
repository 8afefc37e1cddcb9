import Derived.Test.YtimddbgnaeeggaaDoorKI
import Derived.Test.YtimddbgnaeeggaaDoorKH
import Derived.Test.YtimddbgnaeeggaaDoorKP
namespace Go.Proofs.YtimddbgnaeeggaaDoor.KD
open Go.Eng
set_option maxRecDepth 100000
section
variable {ro : Addr → A → Prop}
theorem kindT (c : List Nat) (h : Ct c) {K : V → Hp → Prop} (hK : K (.a (.int .u8 3)) []) : Go.Eng.Fn Tryd.prog ro 24 [.a (.str (bs (toldP c)))] [] K := by
  have hl := enc_le c
  refine kind_tally (encC c 6) (by omega) (fun k hk => ?_)
  rw [tallyP_enc h] at hk
  obtain rfl : k = 3 := hk
  exact hK
theorem bothT (c d : List Nat) (h : Ct c) (h' : Ct d) {K : V → Hp → Prop} (hK : K (.a (.str (bs (toldP (mxC c d))))) []) : Go.Eng.Fn Tryd.prog ro 47 [.a (.str (bs (toldP c))), .a (.str (bs (toldP d)))] [] K := by
  have hl := enc_le c
  have hl' := enc_le d
  exact both_tally (encC c 6) (encC d 6) (by omega) (by omega) c d (tallyP_enc h) (tallyP_enc h') hK
theorem asTallyT (c : List Nat) (h : Ct c) {K : V → Hp → Prop} (hK : K (.t [.a (.int .i32 (sumC c 6)), .a (.int .i64 0)]) []) : Go.Eng.Fn Tryd.prog ro 31 [.a (.str (bs (toldP c)))] [] K := by
  have hl := enc_le c
  exact asTally1 (encC c 6) (by omega) c (tallyP_enc h) hK
theorem stepT (c : List Nat) (h : Ct c) (r : Nat) (hr : 1 ≤ r ∧ r ≤ 5) (b : Int) (hb : -32768 ≤ b ∧ b ≤ 32767) {K : V → Hp → Prop}
    (hK2 : ∀ u, c[r * 2 + (if b < 0 then 1 else 0)]? = some u → 65535 < b.natAbs + u → K (.t [.a (.str ByteArray.empty), .a (.int .i64 101)]) [])
    (hK3 : ∀ u, c[r * 2 + (if b < 0 then 1 else 0)]? = some u → b.natAbs + u ≤ 65535 → K (.t [.a (.str (bs (toldP (c.set (r * 2 + (if b < 0 then 1 else 0)) (b.natAbs + u))))), .a (.int .i64 0)]) []) :
    Go.Eng.Fn Tryd.prog ro 30 [.a (.str (bs (toldP c))), .a (.int .u8 r), .a (.int .i16 b)] [] K := by
  have hl := enc_le c
  exact step1 (encC c 6) (by omega) c (tallyP_enc h) r (by omega) b hb (fun h => by omega) (fun u _ _ h1 h2 => hK2 u h1 h2) (fun u _ _ h1 h2 => hK3 u h1 h2)
set_option maxHeartbeats 1000000 in
theorem joinT (u w : List Nat) (hu : Ct u) (hw : Ct w) {K : V → Hp → Prop} (hK : K (.t [.a (.str (bs (toldP (mxC u w)))), .a (.int .i64 0)]) []) : Go.Eng.Fn Tryd.prog ro 17 [.a (.str (bs (toldP u))), .a (.str (bs (toldP w)))] [] K := by
  have k1 := @kindT ro u hu
  have k2 := @kindT ro w hw
  have k3 := @bothT ro u w hu hw
  have hl := enc_le (mxC u w)
  have sc : (bs (toldP (mxC u w))).size ≤ 31 := by rw [bs_size, toldP_eq, List.length_cons]; omega
  generalize bs (toldP u) = a at *
  generalize bs (toldP w) = b at *
  generalize bs (toldP (mxC u w)) = c at *
  have c1 : decide ((c.size : Int) > 40) = false := decide_eq_false (by omega)
  refine Fn.weak ?_
  refine Fn.of_code (gOf []) Tryd.func17 rfl (Nat.le_of_ble_eq_true rfl) ?_
  conv => whnf
  repeat' ((first | ((with_reducible refine y'r ?_ ?_); (· decide +kernel)) | ((with_reducible refine y'g ?_ ?_); (· exact ⟨_, rfl⟩)) | (with_reducible first | refine y'b ‹_› ?_ | refine y'n ‹_› ?_ | refine y'1 ‹_› ?_ | refine y'2 ‹_› ?_ | refine y'3 ?_ | refine y'4 ?_) | ((with_reducible refine y'n ?_ ?_); (· first | assumption | exact decide_eq_true (by omega) | decide +kernel)) | ((with_reducible refine y'b ?_ ?_); (· assumption)) | (with_reducible first | refine y'n (y'7 ‹_› ‹_›) ?_ | refine y'v (y'8 ‹_› ‹_›) (fun s hs => ?_) | refine y'5 ‹_› ?_ | refine y'6 ‹_› ?_) | ((with_reducible apply y'o); (· first | exact g0 | exact g1 | exact g2)) | (with_reducible first | refine y'n (st12 ‹_›) ?_ | refine y'n (len12 ‹_›) ?_ | refine y't (store12 ‹_›) ?_ | refine y't (whole12 ‹_›) ?_) | ((with_reducible refine y'p ?_ ?_); (· rfl)) | ((with_reducible refine y'q ?_ ?_); (· rfl)) | fail) <;> (conv => whnf))
  refine Fn.frame [] (by rfl) (by exact trivial) (by rfl) (k1 ?_)
  conv => whnf
  repeat' ((first | ((with_reducible refine y'r ?_ ?_); (· decide +kernel)) | ((with_reducible refine y'g ?_ ?_); (· exact ⟨_, rfl⟩)) | (with_reducible first | refine y'b ‹_› ?_ | refine y'n ‹_› ?_ | refine y'1 ‹_› ?_ | refine y'2 ‹_› ?_ | refine y'3 ?_ | refine y'4 ?_) | ((with_reducible refine y'n ?_ ?_); (· first | assumption | exact decide_eq_true (by omega) | decide +kernel)) | ((with_reducible refine y'b ?_ ?_); (· assumption)) | (with_reducible first | refine y'n (y'7 ‹_› ‹_›) ?_ | refine y'v (y'8 ‹_› ‹_›) (fun s hs => ?_) | refine y'5 ‹_› ?_ | refine y'6 ‹_› ?_) | ((with_reducible apply y'o); (· first | exact g0 | exact g1 | exact g2)) | (with_reducible first | refine y'n (st12 ‹_›) ?_ | refine y'n (len12 ‹_›) ?_ | refine y't (store12 ‹_›) ?_ | refine y't (whole12 ‹_›) ?_) | ((with_reducible refine y'p ?_ ?_); (· rfl)) | ((with_reducible refine y'q ?_ ?_); (· rfl)) | fail) <;> (conv => whnf))
  refine Fn.frame [] (by rfl) (by exact trivial) (by rfl) (k2 ?_)
  conv => whnf
  repeat' ((first | ((with_reducible refine y'r ?_ ?_); (· decide +kernel)) | ((with_reducible refine y'g ?_ ?_); (· exact ⟨_, rfl⟩)) | (with_reducible first | refine y'b ‹_› ?_ | refine y'n ‹_› ?_ | refine y'1 ‹_› ?_ | refine y'2 ‹_› ?_ | refine y'3 ?_ | refine y'4 ?_) | ((with_reducible refine y'n ?_ ?_); (· first | assumption | exact decide_eq_true (by omega) | decide +kernel)) | ((with_reducible refine y'b ?_ ?_); (· assumption)) | (with_reducible first | refine y'n (y'7 ‹_› ‹_›) ?_ | refine y'v (y'8 ‹_› ‹_›) (fun s hs => ?_) | refine y'5 ‹_› ?_ | refine y'6 ‹_› ?_) | ((with_reducible apply y'o); (· first | exact g0 | exact g1 | exact g2)) | (with_reducible first | refine y'n (st12 ‹_›) ?_ | refine y'n (len12 ‹_›) ?_ | refine y't (store12 ‹_›) ?_ | refine y't (whole12 ‹_›) ?_) | ((with_reducible refine y'p ?_ ?_); (· rfl)) | ((with_reducible refine y'q ?_ ?_); (· rfl)) | fail) <;> (conv => whnf))
  refine Fn.frame [] (by rfl) (by exact trivial) (by rfl) (k3 ?_)
  conv => whnf
  repeat' ((first | ((with_reducible refine y'r ?_ ?_); (· decide +kernel)) | ((with_reducible refine y'g ?_ ?_); (· exact ⟨_, rfl⟩)) | (with_reducible first | refine y'b ‹_› ?_ | refine y'n ‹_› ?_ | refine y'1 ‹_› ?_ | refine y'2 ‹_› ?_ | refine y'3 ?_ | refine y'4 ?_) | ((with_reducible refine y'n ?_ ?_); (· first | assumption | exact decide_eq_true (by omega) | decide +kernel)) | ((with_reducible refine y'b ?_ ?_); (· assumption)) | (with_reducible first | refine y'n (y'7 ‹_› ‹_›) ?_ | refine y'v (y'8 ‹_› ‹_›) (fun s hs => ?_) | refine y'5 ‹_› ?_ | refine y'6 ‹_› ?_) | ((with_reducible apply y'o); (· first | exact g0 | exact g1 | exact g2)) | (with_reducible first | refine y'n (st12 ‹_›) ?_ | refine y'n (len12 ‹_›) ?_ | refine y't (store12 ‹_›) ?_ | refine y't (whole12 ‹_›) ?_) | ((with_reducible refine y'p ?_ ?_); (· rfl)) | ((with_reducible refine y'q ?_ ?_); (· rfl)) | fail) <;> (conv => whnf))
  exact keepOf (v₀ := .t [.a (.str c), .a (.int .i64 0)]) [] [] rfl trivial rfl hK
set_option maxHeartbeats 1000000 in
theorem belowT (u w : List Nat) (hu : Ct u) (hw : Ct w) {K : V → Hp → Prop} (hK : K (.a (.bool (decide (mxC u w = w)))) []) : Go.Eng.Fn Tryd.prog ro 13 [.a (.str (bs (toldP u))), .a (.str (bs (toldP w)))] [] K := by
  have k1 := @joinT ro u w hu hw
  have c0 : ((bs (toldP (mxC u w))).data.toList == (bs (toldP w)).data.toList) = decide (mxC u w = w) := by
    refine beq_bs _ _ _ ?_
    rw [decide_eq_true_iff]
    exact ⟨fun h => told_inj (hu.mx hw) hw h, fun h => by rw [h]⟩
  generalize bs (toldP u) = a at *
  generalize bs (toldP w) = b at *
  generalize bs (toldP (mxC u w)) = c at *
  refine Fn.weak ?_
  refine Fn.of_code (gOf []) Tryd.func13 rfl (Nat.le_of_ble_eq_true rfl) ?_
  conv => whnf
  repeat' ((first | ((with_reducible refine y'r ?_ ?_); (· decide +kernel)) | ((with_reducible refine y'g ?_ ?_); (· exact ⟨_, rfl⟩)) | (with_reducible first | refine y'b ‹_› ?_ | refine y'n ‹_› ?_ | refine y'1 ‹_› ?_ | refine y'2 ‹_› ?_ | refine y'3 ?_ | refine y'4 ?_) | ((with_reducible refine y'n ?_ ?_); (· first | assumption | exact decide_eq_true (by omega) | decide +kernel)) | ((with_reducible refine y'b ?_ ?_); (· assumption)) | (with_reducible first | refine y'n (y'7 ‹_› ‹_›) ?_ | refine y'v (y'8 ‹_› ‹_›) (fun s hs => ?_) | refine y'5 ‹_› ?_ | refine y'6 ‹_› ?_) | ((with_reducible apply y'o); (· first | exact g0 | exact g1 | exact g2)) | (with_reducible first | refine y'n (st12 ‹_›) ?_ | refine y'n (len12 ‹_›) ?_ | refine y't (store12 ‹_›) ?_ | refine y't (whole12 ‹_›) ?_) | ((with_reducible refine y'p ?_ ?_); (· rfl)) | ((with_reducible refine y'q ?_ ?_); (· rfl)) | fail) <;> (conv => whnf))
  refine Fn.frame [] (by rfl) (by exact trivial) (by rfl) (k1 ?_)
  conv => whnf
  repeat' ((first | ((with_reducible refine y'r ?_ ?_); (· decide +kernel)) | ((with_reducible refine y'g ?_ ?_); (· exact ⟨_, rfl⟩)) | (with_reducible first | refine y'b ‹_› ?_ | refine y'n ‹_› ?_ | refine y'1 ‹_› ?_ | refine y'2 ‹_› ?_ | refine y'3 ?_ | refine y'4 ?_) | ((with_reducible refine y'n ?_ ?_); (· first | assumption | exact decide_eq_true (by omega) | decide +kernel)) | ((with_reducible refine y'b ?_ ?_); (· assumption)) | (with_reducible first | refine y'n (y'7 ‹_› ‹_›) ?_ | refine y'v (y'8 ‹_› ‹_›) (fun s hs => ?_) | refine y'5 ‹_› ?_ | refine y'6 ‹_› ?_) | ((with_reducible apply y'o); (· first | exact g0 | exact g1 | exact g2)) | (with_reducible first | refine y'n (st12 ‹_›) ?_ | refine y'n (len12 ‹_›) ?_ | refine y't (store12 ‹_›) ?_ | refine y't (whole12 ‹_›) ?_) | ((with_reducible refine y'p ?_ ?_); (· rfl)) | ((with_reducible refine y'q ?_ ?_); (· rfl)) | fail) <;> (conv => whnf))
  exact keepOf (v₀ := .a (.bool (decide (mxC u w = w)))) [] [] (congrArg (fun b => V.a (.bool b)) c0) trivial rfl hK
set_option maxHeartbeats 400000 in
theorem tally29 {K : V → Hp → Prop} (hK : K (.a (.str (bs (toldP zeros)))) []) : Go.Eng.Fn Tryd.prog ro 29 [] [] K := by
  rw [told_zeros] at hK
  refine Fn.weak ?_
  refine Fn.of_code (gOf []) Tryd.func29 rfl (Nat.le_of_ble_eq_true rfl) ?_
  conv => whnf
  repeat' ((first | ((with_reducible refine y'r ?_ ?_); (· decide +kernel)) | ((with_reducible refine y'g ?_ ?_); (· exact ⟨_, rfl⟩)) | (with_reducible first | refine y'b ‹_› ?_ | refine y'n ‹_› ?_ | refine y'1 ‹_› ?_ | refine y'2 ‹_› ?_ | refine y'3 ?_ | refine y'4 ?_) | ((with_reducible refine y'n ?_ ?_); (· first | assumption | exact decide_eq_true (by omega) | decide +kernel)) | ((with_reducible refine y'b ?_ ?_); (· assumption)) | (with_reducible first | refine y'n (y'7 ‹_› ‹_›) ?_ | refine y'v (y'8 ‹_› ‹_›) (fun s hs => ?_) | refine y'5 ‹_› ?_ | refine y'6 ‹_› ?_) | ((with_reducible apply y'o); (· first | exact g0 | exact g1 | exact g2)) | (with_reducible first | refine y'n (st12 ‹_›) ?_ | refine y'n (len12 ‹_›) ?_ | refine y't (store12 ‹_›) ?_ | refine y't (whole12 ‹_›) ?_) | ((with_reducible refine y'p ?_ ?_); (· rfl)) | ((with_reducible refine y'q ?_ ?_); (· rfl)) | fail) <;> (conv => whnf))
  exact keepOf (v₀ := .a (.str (bs [3]))) [] [] rfl trivial rfl hK
set_option maxHeartbeats 400000 in
theorem flag55 {K : V → Hp → Prop} (hK : K (.a (.str (bs [1, 1]))) []) : Go.Eng.Fn Tryd.prog ro 55 [.a (.bool true)] [] K := by
  refine Fn.weak ?_
  refine Fn.of_code (gOf []) Tryd.func55 rfl (Nat.le_of_ble_eq_true rfl) ?_
  conv => whnf
  repeat' ((first | ((with_reducible refine y'r ?_ ?_); (· decide +kernel)) | ((with_reducible refine y'g ?_ ?_); (· exact ⟨_, rfl⟩)) | (with_reducible first | refine y'b ‹_› ?_ | refine y'n ‹_› ?_ | refine y'1 ‹_› ?_ | refine y'2 ‹_› ?_ | refine y'3 ?_ | refine y'4 ?_) | ((with_reducible refine y'n ?_ ?_); (· first | assumption | exact decide_eq_true (by omega) | decide +kernel)) | ((with_reducible refine y'b ?_ ?_); (· assumption)) | (with_reducible first | refine y'n (y'7 ‹_› ‹_›) ?_ | refine y'v (y'8 ‹_› ‹_›) (fun s hs => ?_) | refine y'5 ‹_› ?_ | refine y'6 ‹_› ?_) | ((with_reducible apply y'o); (· first | exact g0 | exact g1 | exact g2)) | (with_reducible first | refine y'n (st12 ‹_›) ?_ | refine y'n (len12 ‹_›) ?_ | refine y't (store12 ‹_›) ?_ | refine y't (whole12 ‹_›) ?_) | ((with_reducible refine y'p ?_ ?_); (· rfl)) | ((with_reducible refine y'q ?_ ?_); (· rfl)) | fail) <;> (conv => whnf))
  exact keepOf (v₀ := .a (.str (bs [1, 1]))) [] [] rfl trivial rfl hK
set_option maxHeartbeats 1000000 in
theorem alive25 {K : V → Hp → Prop} (hK : K (.a (.bool true)) []) : Go.Eng.Fn Tryd.prog ro 25 [] [] K := by
  refine Fn.weak ?_
  refine Fn.of_code (gOf []) Tryd.func25 rfl (Nat.le_of_ble_eq_true rfl) ?_
  conv => whnf
  repeat' ((first | ((with_reducible refine y'r ?_ ?_); (· decide +kernel)) | ((with_reducible refine y'g ?_ ?_); (· exact ⟨_, rfl⟩)) | (with_reducible first | refine y'b ‹_› ?_ | refine y'n ‹_› ?_ | refine y'1 ‹_› ?_ | refine y'2 ‹_› ?_ | refine y'3 ?_ | refine y'4 ?_) | ((with_reducible refine y'n ?_ ?_); (· first | assumption | exact decide_eq_true (by omega) | decide +kernel)) | ((with_reducible refine y'b ?_ ?_); (· assumption)) | (with_reducible first | refine y'n (y'7 ‹_› ‹_›) ?_ | refine y'v (y'8 ‹_› ‹_›) (fun s hs => ?_) | refine y'5 ‹_› ?_ | refine y'6 ‹_› ?_) | ((with_reducible apply y'o); (· first | exact g0 | exact g1 | exact g2)) | (with_reducible first | refine y'n (st12 ‹_›) ?_ | refine y'n (len12 ‹_›) ?_ | refine y't (store12 ‹_›) ?_ | refine y't (whole12 ‹_›) ?_) | ((with_reducible refine y'p ?_ ?_); (· rfl)) | ((with_reducible refine y'q ?_ ?_); (· rfl)) | fail) <;> (conv => whnf))
  refine Fn.frame [] (by rfl) (by exact trivial) (by rfl) (tally29 ?_)
  conv => whnf
  repeat' ((first | ((with_reducible refine y'r ?_ ?_); (· decide +kernel)) | ((with_reducible refine y'g ?_ ?_); (· exact ⟨_, rfl⟩)) | (with_reducible first | refine y'b ‹_› ?_ | refine y'n ‹_› ?_ | refine y'1 ‹_› ?_ | refine y'2 ‹_› ?_ | refine y'3 ?_ | refine y'4 ?_) | ((with_reducible refine y'n ?_ ?_); (· first | assumption | exact decide_eq_true (by omega) | decide +kernel)) | ((with_reducible refine y'b ?_ ?_); (· assumption)) | (with_reducible first | refine y'n (y'7 ‹_› ‹_›) ?_ | refine y'v (y'8 ‹_› ‹_›) (fun s hs => ?_) | refine y'5 ‹_› ?_ | refine y'6 ‹_› ?_) | ((with_reducible apply y'o); (· first | exact g0 | exact g1 | exact g2)) | (with_reducible first | refine y'n (st12 ‹_›) ?_ | refine y'n (len12 ‹_›) ?_ | refine y't (store12 ‹_›) ?_ | refine y't (whole12 ‹_›) ?_) | ((with_reducible refine y'p ?_ ?_); (· rfl)) | ((with_reducible refine y'q ?_ ?_); (· rfl)) | fail) <;> (conv => whnf))
  refine Fn.frame [] (by rfl) (by exact trivial) (by rfl) (stepT zeros Ct.zeros 2 (by decide) 3 (by decide) (fun u h1 h2 => ?_) (fun u h1 h2 => ?_))
  · obtain rfl : 0 = u := by simpa [zeros] using h1
    exact absurd h2 (by decide)
  obtain rfl : 0 = u := by simpa [zeros] using h1
  have e0 : toldP (zeros.set (2 * 2 + (if (3 : Int) < 0 then 1 else 0)) (Int.natAbs 3 + 0)) = [3, 2, 0, 3, 0, 0] := by
    simp [toldP, zeros, encC, ent, be2_eq]
  rw [e0]
  have n1 : isNan 4607182418800017408 = false := by unfold isNan; decide
  have n2 : isNan 4611686018427387904 = false := by unfold isNan; decide
  have n3 : isNan 4613937818241073152 = false := by unfold isNan; decide
  have n4 : isNan 13830554455654793216 = false := by unfold isNan; decide
  have q1 : Can 4607182418800017408 := ⟨by decide, fun h => by rw [n1] at h; cases h⟩
  have q2 : Can 4611686018427387904 := ⟨by decide, fun h => by rw [n2] at h; cases h⟩
  have q3 : Can 4613937818241073152 := ⟨by decide, fun h => by rw [n3] at h; cases h⟩
  have q4 : Can 13830554455654793216 := ⟨by decide, fun h => by rw [n4] at h; cases h⟩
  have f1 : gt 4607182418800017408 4613937818241073152 = 4613937818241073152 := by unfold gt rk; rw [n1, n3]; decide
  have f2 : gt 4611686018427387904 13830554455654793216 = 4611686018427387904 := by unfold gt rk; rw [n2, n4]; decide
  have k1 := @corner7v ro 4607182418800017408 4611686018427387904 q1.1 q2.1
  have k2 := @corner7v ro 4613937818241073152 13830554455654793216 q3.1 q4.1
  have k3 := @corner7v ro 4613937818241073152 4611686018427387904 q3.1 q2.1
  have k4 := @join_corner ro 4607182418800017408 4611686018427387904 4613937818241073152 13830554455654793216 q1 q2 q3 q4
  have k5 := @kind_cornerV ro 4613937818241073152 4611686018427387904 q3.1 q3.2 q2.1 q2.2
  have e5 : bs (5 :: (be 8 4613937818241073152 ++ be 8 4611686018427387904)) = bs (cv 4613937818241073152 4611686018427387904) := rfl
  rw [e5] at k5
  rw [f1, f2] at k4
  rw [can_fb q1, can_fb q2] at k1
  rw [can_fb q3, can_fb q4] at k2
  rw [can_fb q3, can_fb q2] at k3
  generalize bs (cv 4607182418800017408 4611686018427387904) = x1 at *
  generalize bs (cv 4613937818241073152 13830554455654793216) = x2 at *
  generalize bs (cv 4613937818241073152 4611686018427387904) = x3 at *
  have c9 : (x3.data.toList == x3.data.toList) = true := by simp
  conv => whnf
  repeat' ((first | ((with_reducible refine y'r ?_ ?_); (· decide +kernel)) | ((with_reducible refine y'g ?_ ?_); (· exact ⟨_, rfl⟩)) | (with_reducible first | refine y'b ‹_› ?_ | refine y'n ‹_› ?_ | refine y'1 ‹_› ?_ | refine y'2 ‹_› ?_ | refine y'3 ?_ | refine y'4 ?_) | ((with_reducible refine y'n ?_ ?_); (· first | assumption | exact decide_eq_true (by omega) | decide +kernel)) | ((with_reducible refine y'b ?_ ?_); (· assumption)) | (with_reducible first | refine y'n (y'7 ‹_› ‹_›) ?_ | refine y'v (y'8 ‹_› ‹_›) (fun s hs => ?_) | refine y'5 ‹_› ?_ | refine y'6 ‹_› ?_) | ((with_reducible apply y'o); (· first | exact g0 | exact g1 | exact g2)) | (with_reducible first | refine y'n (st12 ‹_›) ?_ | refine y'n (len12 ‹_›) ?_ | refine y't (store12 ‹_›) ?_ | refine y't (whole12 ‹_›) ?_) | ((with_reducible refine y'p ?_ ?_); (· rfl)) | ((with_reducible refine y'q ?_ ?_); (· rfl)) | fail) <;> (conv => whnf))
  refine Fn.frame [] (by rfl) (by exact trivial) (by rfl) (k1 ?_)
  conv => whnf
  repeat' ((first | ((with_reducible refine y'r ?_ ?_); (· decide +kernel)) | ((with_reducible refine y'g ?_ ?_); (· exact ⟨_, rfl⟩)) | (with_reducible first | refine y'b ‹_› ?_ | refine y'n ‹_› ?_ | refine y'1 ‹_› ?_ | refine y'2 ‹_› ?_ | refine y'3 ?_ | refine y'4 ?_) | ((with_reducible refine y'n ?_ ?_); (· first | assumption | exact decide_eq_true (by omega) | decide +kernel)) | ((with_reducible refine y'b ?_ ?_); (· assumption)) | (with_reducible first | refine y'n (y'7 ‹_› ‹_›) ?_ | refine y'v (y'8 ‹_› ‹_›) (fun s hs => ?_) | refine y'5 ‹_› ?_ | refine y'6 ‹_› ?_) | ((with_reducible apply y'o); (· first | exact g0 | exact g1 | exact g2)) | (with_reducible first | refine y'n (st12 ‹_›) ?_ | refine y'n (len12 ‹_›) ?_ | refine y't (store12 ‹_›) ?_ | refine y't (whole12 ‹_›) ?_) | ((with_reducible refine y'p ?_ ?_); (· rfl)) | ((with_reducible refine y'q ?_ ?_); (· rfl)) | fail) <;> (conv => whnf))
  refine Fn.frame [] (by rfl) (by exact trivial) (by rfl) (k2 ?_)
  conv => whnf
  repeat' ((first | ((with_reducible refine y'r ?_ ?_); (· decide +kernel)) | ((with_reducible refine y'g ?_ ?_); (· exact ⟨_, rfl⟩)) | (with_reducible first | refine y'b ‹_› ?_ | refine y'n ‹_› ?_ | refine y'1 ‹_› ?_ | refine y'2 ‹_› ?_ | refine y'3 ?_ | refine y'4 ?_) | ((with_reducible refine y'n ?_ ?_); (· first | assumption | exact decide_eq_true (by omega) | decide +kernel)) | ((with_reducible refine y'b ?_ ?_); (· assumption)) | (with_reducible first | refine y'n (y'7 ‹_› ‹_›) ?_ | refine y'v (y'8 ‹_› ‹_›) (fun s hs => ?_) | refine y'5 ‹_› ?_ | refine y'6 ‹_› ?_) | ((with_reducible apply y'o); (· first | exact g0 | exact g1 | exact g2)) | (with_reducible first | refine y'n (st12 ‹_›) ?_ | refine y'n (len12 ‹_›) ?_ | refine y't (store12 ‹_›) ?_ | refine y't (whole12 ‹_›) ?_) | ((with_reducible refine y'p ?_ ?_); (· rfl)) | ((with_reducible refine y'q ?_ ?_); (· rfl)) | fail) <;> (conv => whnf))
  refine Fn.frame [] (by rfl) (by exact trivial) (by rfl) (k4 ?_)
  conv => whnf
  repeat' ((first | ((with_reducible refine y'r ?_ ?_); (· decide +kernel)) | ((with_reducible refine y'g ?_ ?_); (· exact ⟨_, rfl⟩)) | (with_reducible first | refine y'b ‹_› ?_ | refine y'n ‹_› ?_ | refine y'1 ‹_› ?_ | refine y'2 ‹_› ?_ | refine y'3 ?_ | refine y'4 ?_) | ((with_reducible refine y'n ?_ ?_); (· first | assumption | exact decide_eq_true (by omega) | decide +kernel)) | ((with_reducible refine y'b ?_ ?_); (· assumption)) | (with_reducible first | refine y'n (y'7 ‹_› ‹_›) ?_ | refine y'v (y'8 ‹_› ‹_›) (fun s hs => ?_) | refine y'5 ‹_› ?_ | refine y'6 ‹_› ?_) | ((with_reducible apply y'o); (· first | exact g0 | exact g1 | exact g2)) | (with_reducible first | refine y'n (st12 ‹_›) ?_ | refine y'n (len12 ‹_›) ?_ | refine y't (store12 ‹_›) ?_ | refine y't (whole12 ‹_›) ?_) | ((with_reducible refine y'p ?_ ?_); (· rfl)) | ((with_reducible refine y'q ?_ ?_); (· rfl)) | fail) <;> (conv => whnf))
  refine Fn.frame [] (by rfl) (by exact trivial) (by rfl) (k3 ?_)
  conv => whnf
  repeat' ((first | ((with_reducible refine y'r ?_ ?_); (· decide +kernel)) | ((with_reducible refine y'g ?_ ?_); (· exact ⟨_, rfl⟩)) | (with_reducible first | refine y'b ‹_› ?_ | refine y'n ‹_› ?_ | refine y'1 ‹_› ?_ | refine y'2 ‹_› ?_ | refine y'3 ?_ | refine y'4 ?_) | ((with_reducible refine y'n ?_ ?_); (· first | assumption | exact decide_eq_true (by omega) | decide +kernel)) | ((with_reducible refine y'b ?_ ?_); (· assumption)) | (with_reducible first | refine y'n (y'7 ‹_› ‹_›) ?_ | refine y'v (y'8 ‹_› ‹_›) (fun s hs => ?_) | refine y'5 ‹_› ?_ | refine y'6 ‹_› ?_) | ((with_reducible apply y'o); (· first | exact g0 | exact g1 | exact g2)) | (with_reducible first | refine y'n (st12 ‹_›) ?_ | refine y'n (len12 ‹_›) ?_ | refine y't (store12 ‹_›) ?_ | refine y't (whole12 ‹_›) ?_) | ((with_reducible refine y'p ?_ ?_); (· rfl)) | ((with_reducible refine y'q ?_ ?_); (· rfl)) | fail) <;> (conv => whnf))
  refine Fn.frame [] (by rfl) (by exact trivial) (by rfl) (flag55 ?_)
  conv => whnf
  repeat' ((first | ((with_reducible refine y'r ?_ ?_); (· decide +kernel)) | ((with_reducible refine y'g ?_ ?_); (· exact ⟨_, rfl⟩)) | (with_reducible first | refine y'b ‹_› ?_ | refine y'n ‹_› ?_ | refine y'1 ‹_› ?_ | refine y'2 ‹_› ?_ | refine y'3 ?_ | refine y'4 ?_) | ((with_reducible refine y'n ?_ ?_); (· first | assumption | exact decide_eq_true (by omega) | decide +kernel)) | ((with_reducible refine y'b ?_ ?_); (· assumption)) | (with_reducible first | refine y'n (y'7 ‹_› ‹_›) ?_ | refine y'v (y'8 ‹_› ‹_›) (fun s hs => ?_) | refine y'5 ‹_› ?_ | refine y'6 ‹_› ?_) | ((with_reducible apply y'o); (· first | exact g0 | exact g1 | exact g2)) | (with_reducible first | refine y'n (st12 ‹_›) ?_ | refine y'n (len12 ‹_›) ?_ | refine y't (store12 ‹_›) ?_ | refine y't (whole12 ‹_›) ?_) | ((with_reducible refine y'p ?_ ?_); (· rfl)) | ((with_reducible refine y'q ?_ ?_); (· rfl)) | fail) <;> (conv => whnf))
  refine Fn.frame [] (by rfl) (by exact trivial) (by rfl) (k5 ?_)
  conv => whnf
  repeat' ((first | ((with_reducible refine y'r ?_ ?_); (· decide +kernel)) | ((with_reducible refine y'g ?_ ?_); (· exact ⟨_, rfl⟩)) | (with_reducible first | refine y'b ‹_› ?_ | refine y'n ‹_› ?_ | refine y'1 ‹_› ?_ | refine y'2 ‹_› ?_ | refine y'3 ?_ | refine y'4 ?_) | ((with_reducible refine y'n ?_ ?_); (· first | assumption | exact decide_eq_true (by omega) | decide +kernel)) | ((with_reducible refine y'b ?_ ?_); (· assumption)) | (with_reducible first | refine y'n (y'7 ‹_› ‹_›) ?_ | refine y'v (y'8 ‹_› ‹_›) (fun s hs => ?_) | refine y'5 ‹_› ?_ | refine y'6 ‹_› ?_) | ((with_reducible apply y'o); (· first | exact g0 | exact g1 | exact g2)) | (with_reducible first | refine y'n (st12 ‹_›) ?_ | refine y'n (len12 ‹_›) ?_ | refine y't (store12 ‹_›) ?_ | refine y't (whole12 ‹_›) ?_) | ((with_reducible refine y'p ?_ ?_); (· rfl)) | ((with_reducible refine y'q ?_ ?_); (· rfl)) | fail) <;> (conv => whnf))
  exact keepOf (v₀ := .a (.bool true)) [] [] rfl trivial rfl hK
end
end Go.Proofs.YtimddbgnaeeggaaDoor.KD
