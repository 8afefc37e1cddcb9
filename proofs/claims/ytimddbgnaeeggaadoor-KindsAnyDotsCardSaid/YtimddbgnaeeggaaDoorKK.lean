import Derived.Test.YtimddbgnaeeggaaDoorKR
namespace Go.Proofs.YtimddbgnaeeggaaDoor.KD
open Go.Eng
set_option maxRecDepth 100000
theorem rf_cases {L : List UInt8} {a : Nat} {e : Int} {v a' : Nat} {e' : Int} (h : rf L a e = (v, a', e')) : (e' ≠ 0 ∧ a' = a ∧ v = 0) ∨ (e = 0 ∧ e' = 0 ∧ a' = a + 8 ∧ a + 8 ≤ L.length ∧ v = hiN ((L.drop a).take 8) ∧ v < 18446744073709551616 ∧ (isNan v = true → v = 9221120237041090560)) := by
  unfold rf at h
  obtain ⟨⟨t, ok, a1, e1⟩, ht⟩ : ∃ q, tk L a e 8 = q := ⟨_, rfl⟩
  rw [ht] at h
  rcases tk_cases ht with ⟨rfl, h1, rfl, h3⟩ | ⟨rfl, rfl, h2, h3, h4, rfl, rfl⟩
  · simp only [Bool.false_eq_true, if_false] at h
    injection h with h5 h6; injection h6 with h6 h7
    exact .inl ⟨by rw [← h7]; exact h3, h6.symm, h5.symm⟩
  · simp only [if_true] at h
    have hl := hi8_lt h4
    split at h
    · injection h with h5 h6; injection h6 with h6 h7
      exact .inl ⟨by rw [← h7]; decide, h6.symm, h5.symm⟩
    · rename_i hn
      injection h with h5 h6; injection h6 with h6 h7
      refine .inr ⟨rfl, h7.symm, h6.symm, h2, by rw [← h5, h3], by rw [← h5]; exact hl, fun hx => ?_⟩
      rw [← h5] at hx ⊢
      by_cases hq : hiN t = 9221120237041090560
      · exact hq
      · exact absurd ⟨hx, hq⟩ hn
theorem rf_of {L : List UInt8} {a v : Nat} (h : a + 8 ≤ L.length) (hv : v = hiN ((L.drop a).take 8)) (hn : isNan v = true → v = 9221120237041090560) : rf L a 0 = (v, a + 8, 0) := by
  unfold rf
  rw [tk_ok h]
  simp only [if_true, ← hv]
  rw [if_neg (fun h => h.2 (hn h.1))]
theorem quiet_nan : isNan 9221120237041090560 = true := by unfold isNan; decide
theorem fbits_ok (x : Nat) : isNan (fbits x) = true → fbits x = 9221120237041090560 := by
  intro h
  cases hn : isNan x with
  | true => exact fbits_nan hn
  | false => rw [fbits_num hn] at h; rw [hn] at h; cases h
section
variable {ro : Addr → A → Prop}
set_option maxHeartbeats 1000000 in
theorem kind_real (T : List UInt8) (hT : T.length ≤ 39) {K : V → Hp → Prop}
    (hK : ∀ v a e, rf T 0 0 = (v, a, e) → ∀ k : UInt8, k = (if rendP T.length a e = 0 then 2 else 0) → K (.a (.int .u8 (k.toNat : Int))) []) :
    Go.Eng.Fn Tryd.prog ro 24 [.a (.str (bs (2 :: T)))] [] K := by
  have hsz := bs_size (2 :: T)
  have g0 : byteAt (bs (2 :: T)) 0 = some 2 := byteAt_bs (i := 0) rfl
  have hx : (bs (2 :: T)).extract (Int.toNat 1) (bs (2 :: T)).size = bs T := by
    rw [bs_extract, hsz]
    congr 1
    show List.take ((2 :: T).length - 1) (List.drop 1 (2 :: T)) = T
    rw [List.drop_succ_cons, List.drop_zero, List.length_cons, Nat.add_sub_cancel, List.take_of_length_le (Nat.le_refl _)]
  have c0 : ((bs (2 :: T)).data.toList == ([] : List UInt8)) = false := rfl
  generalize bs (2 :: T) = s at *
  rw [List.length_cons] at hsz
  have c1 : decide ((s.size : Int) > 40) = false := decide_eq_false (by omega)
  have c2 : decide ((0 : Int) ≤ 1 ∧ (1 : Int) ≤ (s.size : Int)) = true := decide_eq_true (by omega)
  refine Fn.weak ?_
  refine Fn.of_code (gOf []) Tryd.func24 rfl (Nat.le_of_ble_eq_true rfl) ?_
  conv => whnf
  repeat' ((first | ((with_reducible refine y'r ?_ ?_); (· decide +kernel)) | ((with_reducible refine y'g ?_ ?_); (· exact ⟨_, rfl⟩)) | (with_reducible first | refine y'b ‹_› ?_ | refine y'n ‹_› ?_ | refine y'1 ‹_› ?_ | refine y'2 ‹_› ?_ | refine y'3 ?_ | refine y'4 ?_) | ((with_reducible refine y'n ?_ ?_); (· first | assumption | exact decide_eq_true (by omega) | decide +kernel)) | ((with_reducible refine y'b ?_ ?_); (· assumption)) | (with_reducible first | refine y'n (y'7 ‹_› ‹_›) ?_ | refine y'v (y'8 ‹_› ‹_›) (fun s hs => ?_) | refine y'5 ‹_› ?_ | refine y'6 ‹_› ?_) | ((with_reducible apply y'o); (· first | exact g0 | exact g1 | exact g2)) | ((with_reducible refine y'p ?_ ?_); (· rfl)) | ((with_reducible refine y'q ?_ ?_); (· rfl)) | fail) <;> (conv => whnf))
  rw [hx]
  refine Fn.frame [] (by rfl) (by exact trivial) (by rfl) (newReader T ?_)
  conv => whnf
  repeat' ((first | ((with_reducible refine y'r ?_ ?_); (· decide +kernel)) | ((with_reducible refine y'g ?_ ?_); (· exact ⟨_, rfl⟩)) | (with_reducible first | refine y'b ‹_› ?_ | refine y'n ‹_› ?_ | refine y'1 ‹_› ?_ | refine y'2 ‹_› ?_ | refine y'3 ?_ | refine y'4 ?_) | ((with_reducible refine y'n ?_ ?_); (· first | assumption | exact decide_eq_true (by omega) | decide +kernel)) | ((with_reducible refine y'b ?_ ?_); (· assumption)) | (with_reducible first | refine y'n (y'7 ‹_› ‹_›) ?_ | refine y'v (y'8 ‹_› ‹_›) (fun s hs => ?_) | refine y'5 ‹_› ?_ | refine y'6 ‹_› ?_) | ((with_reducible apply y'o); (· first | exact g0 | exact g1 | exact g2)) | ((with_reducible refine y'p ?_ ?_); (· rfl)) | ((with_reducible refine y'q ?_ ?_); (· rfl)) | fail) <;> (conv => whnf))
  refine Fn.frame [0] (by rfl) (by exact ⟨rfl, trivial⟩) (by rfl) (rfloat T 0 0 (Nat.zero_le _) (by omega) (fun v a e hv => ?_))
  conv => whnf
  repeat' ((first | ((with_reducible refine y'r ?_ ?_); (· decide +kernel)) | ((with_reducible refine y'g ?_ ?_); (· exact ⟨_, rfl⟩)) | (with_reducible first | refine y'b ‹_› ?_ | refine y'n ‹_› ?_ | refine y'1 ‹_› ?_ | refine y'2 ‹_› ?_ | refine y'3 ?_ | refine y'4 ?_) | ((with_reducible refine y'n ?_ ?_); (· first | assumption | exact decide_eq_true (by omega) | decide +kernel)) | ((with_reducible refine y'b ?_ ?_); (· assumption)) | (with_reducible first | refine y'n (y'7 ‹_› ‹_›) ?_ | refine y'v (y'8 ‹_› ‹_›) (fun s hs => ?_) | refine y'5 ‹_› ?_ | refine y'6 ‹_› ?_) | ((with_reducible apply y'o); (· first | exact g0 | exact g1 | exact g2)) | ((with_reducible refine y'p ?_ ?_); (· rfl)) | ((with_reducible refine y'q ?_ ?_); (· rfl)) | fail) <;> (conv => whnf))
  refine Fn.frame [0] (by rfl) (by exact ⟨rfl, trivial⟩) (by rfl) (rend T a e ?_)
  have hk := hK v a e hv
  by_cases h0 : rendP T.length a e = 0
  · have hk := hk 2 (by rw [if_pos h0])
    rw [h0]
    conv => whnf
    repeat' ((first | ((with_reducible refine y'r ?_ ?_); (· decide +kernel)) | ((with_reducible refine y'g ?_ ?_); (· exact ⟨_, rfl⟩)) | (with_reducible first | refine y'b ‹_› ?_ | refine y'n ‹_› ?_ | refine y'1 ‹_› ?_ | refine y'2 ‹_› ?_ | refine y'3 ?_ | refine y'4 ?_) | ((with_reducible refine y'n ?_ ?_); (· first | assumption | exact decide_eq_true (by omega) | decide +kernel)) | ((with_reducible refine y'b ?_ ?_); (· assumption)) | (with_reducible first | refine y'n (y'7 ‹_› ‹_›) ?_ | refine y'v (y'8 ‹_› ‹_›) (fun s hs => ?_) | refine y'5 ‹_› ?_ | refine y'6 ‹_› ?_) | ((with_reducible apply y'o); (· first | exact g0 | exact g1 | exact g2)) | ((with_reducible refine y'p ?_ ?_); (· rfl)) | ((with_reducible refine y'q ?_ ?_); (· rfl)) | fail) <;> (conv => whnf))
    exact keepOf (v₀ := .a (.int .u8 2)) [] [] rfl trivial rfl hk
  · have hk := hk 0 (by rw [if_neg h0])
    have c5 : (rendP T.length a e != 0) = true := by simp [h0]
    conv => whnf
    repeat' ((first | ((with_reducible refine y'r ?_ ?_); (· decide +kernel)) | ((with_reducible refine y'g ?_ ?_); (· exact ⟨_, rfl⟩)) | (with_reducible first | refine y'b ‹_› ?_ | refine y'n ‹_› ?_ | refine y'1 ‹_› ?_ | refine y'2 ‹_› ?_ | refine y'3 ?_ | refine y'4 ?_) | ((with_reducible refine y'n ?_ ?_); (· first | assumption | exact decide_eq_true (by omega) | decide +kernel)) | ((with_reducible refine y'b ?_ ?_); (· assumption)) | (with_reducible first | refine y'n (y'7 ‹_› ‹_›) ?_ | refine y'v (y'8 ‹_› ‹_›) (fun s hs => ?_) | refine y'5 ‹_› ?_ | refine y'6 ‹_› ?_) | ((with_reducible apply y'o); (· first | exact g0 | exact g1 | exact g2)) | ((with_reducible refine y'p ?_ ?_); (· rfl)) | ((with_reducible refine y'q ?_ ?_); (· rfl)) | fail) <;> (conv => whnf))
    exact keepOf (v₀ := .a (.int .u8 0)) [] [] rfl trivial rfl hk
set_option maxHeartbeats 1000000 in
theorem kind_corner (T : List UInt8) (hT : T.length ≤ 39) {K : V → Hp → Prop}
    (hK : ∀ v a e, rf T 0 0 = (v, a, e) → ∀ v' a' e', rf T a e = (v', a', e') → ∀ k : UInt8, k = (if rendP T.length a' e' = 0 then 5 else 0) → K (.a (.int .u8 (k.toNat : Int))) []) :
    Go.Eng.Fn Tryd.prog ro 24 [.a (.str (bs (5 :: T)))] [] K := by
  have hsz := bs_size (5 :: T)
  have g0 : byteAt (bs (5 :: T)) 0 = some 5 := byteAt_bs (i := 0) rfl
  have hx : (bs (5 :: T)).extract (Int.toNat 1) (bs (5 :: T)).size = bs T := by
    rw [bs_extract, hsz]
    congr 1
    show List.take ((5 :: T).length - 1) (List.drop 1 (5 :: T)) = T
    rw [List.drop_succ_cons, List.drop_zero, List.length_cons, Nat.add_sub_cancel, List.take_of_length_le (Nat.le_refl _)]
  have c0 : ((bs (5 :: T)).data.toList == ([] : List UInt8)) = false := rfl
  generalize bs (5 :: T) = s at *
  rw [List.length_cons] at hsz
  have c1 : decide ((s.size : Int) > 40) = false := decide_eq_false (by omega)
  have c2 : decide ((0 : Int) ≤ 1 ∧ (1 : Int) ≤ (s.size : Int)) = true := decide_eq_true (by omega)
  refine Fn.weak ?_
  refine Fn.of_code (gOf []) Tryd.func24 rfl (Nat.le_of_ble_eq_true rfl) ?_
  conv => whnf
  repeat' ((first | ((with_reducible refine y'r ?_ ?_); (· decide +kernel)) | ((with_reducible refine y'g ?_ ?_); (· exact ⟨_, rfl⟩)) | (with_reducible first | refine y'b ‹_› ?_ | refine y'n ‹_› ?_ | refine y'1 ‹_› ?_ | refine y'2 ‹_› ?_ | refine y'3 ?_ | refine y'4 ?_) | ((with_reducible refine y'n ?_ ?_); (· first | assumption | exact decide_eq_true (by omega) | decide +kernel)) | ((with_reducible refine y'b ?_ ?_); (· assumption)) | (with_reducible first | refine y'n (y'7 ‹_› ‹_›) ?_ | refine y'v (y'8 ‹_› ‹_›) (fun s hs => ?_) | refine y'5 ‹_› ?_ | refine y'6 ‹_› ?_) | ((with_reducible apply y'o); (· first | exact g0 | exact g1 | exact g2)) | ((with_reducible refine y'p ?_ ?_); (· rfl)) | ((with_reducible refine y'q ?_ ?_); (· rfl)) | fail) <;> (conv => whnf))
  rw [hx]
  refine Fn.frame [] (by rfl) (by exact trivial) (by rfl) (newReader T ?_)
  conv => whnf
  repeat' ((first | ((with_reducible refine y'r ?_ ?_); (· decide +kernel)) | ((with_reducible refine y'g ?_ ?_); (· exact ⟨_, rfl⟩)) | (with_reducible first | refine y'b ‹_› ?_ | refine y'n ‹_› ?_ | refine y'1 ‹_› ?_ | refine y'2 ‹_› ?_ | refine y'3 ?_ | refine y'4 ?_) | ((with_reducible refine y'n ?_ ?_); (· first | assumption | exact decide_eq_true (by omega) | decide +kernel)) | ((with_reducible refine y'b ?_ ?_); (· assumption)) | (with_reducible first | refine y'n (y'7 ‹_› ‹_›) ?_ | refine y'v (y'8 ‹_› ‹_›) (fun s hs => ?_) | refine y'5 ‹_› ?_ | refine y'6 ‹_› ?_) | ((with_reducible apply y'o); (· first | exact g0 | exact g1 | exact g2)) | ((with_reducible refine y'p ?_ ?_); (· rfl)) | ((with_reducible refine y'q ?_ ?_); (· rfl)) | fail) <;> (conv => whnf))
  refine Fn.frame [0] (by rfl) (by exact ⟨rfl, trivial⟩) (by rfl) (rfloat T 0 0 (Nat.zero_le _) (by omega) (fun v a e hv => ?_))
  have hle : a ≤ T.length := by
    rcases rf_cases hv with ⟨_, h, _⟩ | ⟨_, _, h, h2, _⟩ <;> omega
  conv => whnf
  repeat' ((first | ((with_reducible refine y'r ?_ ?_); (· decide +kernel)) | ((with_reducible refine y'g ?_ ?_); (· exact ⟨_, rfl⟩)) | (with_reducible first | refine y'b ‹_› ?_ | refine y'n ‹_› ?_ | refine y'1 ‹_› ?_ | refine y'2 ‹_› ?_ | refine y'3 ?_ | refine y'4 ?_) | ((with_reducible refine y'n ?_ ?_); (· first | assumption | exact decide_eq_true (by omega) | decide +kernel)) | ((with_reducible refine y'b ?_ ?_); (· assumption)) | (with_reducible first | refine y'n (y'7 ‹_› ‹_›) ?_ | refine y'v (y'8 ‹_› ‹_›) (fun s hs => ?_) | refine y'5 ‹_› ?_ | refine y'6 ‹_› ?_) | ((with_reducible apply y'o); (· first | exact g0 | exact g1 | exact g2)) | ((with_reducible refine y'p ?_ ?_); (· rfl)) | ((with_reducible refine y'q ?_ ?_); (· rfl)) | fail) <;> (conv => whnf))
  refine Fn.frame [0] (by rfl) (by exact ⟨rfl, trivial⟩) (by rfl) (rfloat T a e hle (by omega) (fun v' a' e' hv' => ?_))
  conv => whnf
  repeat' ((first | ((with_reducible refine y'r ?_ ?_); (· decide +kernel)) | ((with_reducible refine y'g ?_ ?_); (· exact ⟨_, rfl⟩)) | (with_reducible first | refine y'b ‹_› ?_ | refine y'n ‹_› ?_ | refine y'1 ‹_› ?_ | refine y'2 ‹_› ?_ | refine y'3 ?_ | refine y'4 ?_) | ((with_reducible refine y'n ?_ ?_); (· first | assumption | exact decide_eq_true (by omega) | decide +kernel)) | ((with_reducible refine y'b ?_ ?_); (· assumption)) | (with_reducible first | refine y'n (y'7 ‹_› ‹_›) ?_ | refine y'v (y'8 ‹_› ‹_›) (fun s hs => ?_) | refine y'5 ‹_› ?_ | refine y'6 ‹_› ?_) | ((with_reducible apply y'o); (· first | exact g0 | exact g1 | exact g2)) | ((with_reducible refine y'p ?_ ?_); (· rfl)) | ((with_reducible refine y'q ?_ ?_); (· rfl)) | fail) <;> (conv => whnf))
  refine Fn.frame [0] (by rfl) (by exact ⟨rfl, trivial⟩) (by rfl) (rend T a' e' ?_)
  have hk := hK v a e hv v' a' e' hv'
  by_cases h0 : rendP T.length a' e' = 0
  · have hk := hk 5 (by rw [if_pos h0])
    rw [h0]
    conv => whnf
    repeat' ((first | ((with_reducible refine y'r ?_ ?_); (· decide +kernel)) | ((with_reducible refine y'g ?_ ?_); (· exact ⟨_, rfl⟩)) | (with_reducible first | refine y'b ‹_› ?_ | refine y'n ‹_› ?_ | refine y'1 ‹_› ?_ | refine y'2 ‹_› ?_ | refine y'3 ?_ | refine y'4 ?_) | ((with_reducible refine y'n ?_ ?_); (· first | assumption | exact decide_eq_true (by omega) | decide +kernel)) | ((with_reducible refine y'b ?_ ?_); (· assumption)) | (with_reducible first | refine y'n (y'7 ‹_› ‹_›) ?_ | refine y'v (y'8 ‹_› ‹_›) (fun s hs => ?_) | refine y'5 ‹_› ?_ | refine y'6 ‹_› ?_) | ((with_reducible apply y'o); (· first | exact g0 | exact g1 | exact g2)) | ((with_reducible refine y'p ?_ ?_); (· rfl)) | ((with_reducible refine y'q ?_ ?_); (· rfl)) | fail) <;> (conv => whnf))
    exact keepOf (v₀ := .a (.int .u8 5)) [] [] rfl trivial rfl hk
  · have hk := hk 0 (by rw [if_neg h0])
    have c5 : (rendP T.length a' e' != 0) = true := by simp [h0]
    conv => whnf
    repeat' ((first | ((with_reducible refine y'r ?_ ?_); (· decide +kernel)) | ((with_reducible refine y'g ?_ ?_); (· exact ⟨_, rfl⟩)) | (with_reducible first | refine y'b ‹_› ?_ | refine y'n ‹_› ?_ | refine y'1 ‹_› ?_ | refine y'2 ‹_› ?_ | refine y'3 ?_ | refine y'4 ?_) | ((with_reducible refine y'n ?_ ?_); (· first | assumption | exact decide_eq_true (by omega) | decide +kernel)) | ((with_reducible refine y'b ?_ ?_); (· assumption)) | (with_reducible first | refine y'n (y'7 ‹_› ‹_›) ?_ | refine y'v (y'8 ‹_› ‹_›) (fun s hs => ?_) | refine y'5 ‹_› ?_ | refine y'6 ‹_› ?_) | ((with_reducible apply y'o); (· first | exact g0 | exact g1 | exact g2)) | ((with_reducible refine y'p ?_ ?_); (· rfl)) | ((with_reducible refine y'q ?_ ?_); (· rfl)) | fail) <;> (conv => whnf))
    exact keepOf (v₀ := .a (.int .u8 0)) [] [] rfl trivial rfl hk
end
end Go.Proofs.YtimddbgnaeeggaaDoor.KD
