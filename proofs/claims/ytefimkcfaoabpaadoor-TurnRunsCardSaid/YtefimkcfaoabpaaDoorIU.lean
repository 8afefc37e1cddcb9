import Derived.Test.YtefimkcfaoabpaaDoorIT
import Derived.Test.YtefimkcfaoabpaaDoorVB
namespace Go.Proofs.YtefimkcfaoabpaaDoor.TA
open Go.Eng
set_option maxRecDepth 100000
theorem eb (b : UInt8) : UInt8.ofNat ((b.toNat : Int).toNat) = b := by rw [Int.toNat_natCast]; exact UInt8.ofNat_toNat
section
variable {ro : Addr → A → Prop}
set_option maxHeartbeats 4000000 in
theorem formatInt (hT : Tens ro) (u : Nat) (hu : u < 10000) {K : V → Hp → Prop} (hK : K (.a (.str (ita u))) []) :
    Go.Eng.Fn Tryd.prog ro 21 [.a (.int .i64 (u : Int)), .a (.int .i64 10)] [] K := by
  have hw : IntKind.u64.wrap (u : Int) = (u : Int) := wrap64u _ (by omega) (by omega)
  have d1 : decide ((0 : Int) ≤ (u : Int)) = true := decide_eq_true (by omega)
  have d2 : decide ((u : Int) < 0) = false := decide_eq_false (by omega)
  refine Fn.weak ?_
  refine Fn.of_code (gOf []) Tryd.func21 rfl (Nat.le_of_ble_eq_true rfl) ?_
  by_cases h : u < 100
  · have d3 : decide ((u : Int) < 100) = true := decide_eq_true (by omega)
    have ks := @small1 ro u h
    generalize ita u = s at *
    conv => whnf
    repeat' ((first | ((with_reducible refine y'r ?_ ?_); (· decide +kernel)) | ((with_reducible refine y'g ?_ ?_); (· exact ⟨_, rfl⟩)) | (with_reducible first | refine y'b ‹_› ?_ | refine y'n ‹_› ?_ | refine y'1 ‹_› ?_ | refine y'2 ‹_› ?_ | refine y'3 ?_ | refine y'4 ?_) | ((with_reducible refine y'n ?_ ?_); (· first | with_reducible assumption | exact decide_eq_true (by omega) | exact mkOK_of (by decide) | decide +kernel | (refine decide_eq_true ?_; simp (disch := omega) only [i64w]; omega))) | (with_reducible first | refine y'n (y'7 ‹_› ‹_›) ?_ | refine y'v (y'8 ‹_› ‹_›) (fun s hs => ?_) | refine y'5 ‹_› ?_ | refine y'6 ‹_› ?_) | ((with_reducible refine y'p ?_ ?_); (· rfl)) | ((with_reducible refine y'q ?_ ?_); (· rfl)) | fail) <;> (conv => whnf))
    refine Fn.frame [] (by rfl) (by exact trivial) (by rfl) (ks ?_)
    conv => whnf
    repeat' ((first | ((with_reducible refine y'r ?_ ?_); (· decide +kernel)) | ((with_reducible refine y'g ?_ ?_); (· exact ⟨_, rfl⟩)) | (with_reducible first | refine y'b ‹_› ?_ | refine y'n ‹_› ?_ | refine y'1 ‹_› ?_ | refine y'2 ‹_› ?_ | refine y'3 ?_ | refine y'4 ?_) | ((with_reducible refine y'n ?_ ?_); (· first | with_reducible assumption | exact decide_eq_true (by omega) | exact mkOK_of (by decide) | decide +kernel | (refine decide_eq_true ?_; simp (disch := omega) only [i64w]; omega))) | (with_reducible first | refine y'n (y'7 ‹_› ‹_›) ?_ | refine y'v (y'8 ‹_› ‹_›) (fun s hs => ?_) | refine y'5 ‹_› ?_ | refine y'6 ‹_› ?_) | ((with_reducible refine y'p ?_ ?_); (· rfl)) | ((with_reducible refine y'q ?_ ?_); (· rfl)) | fail) <;> (conv => whnf))
    exact keepOf (v₀ := .a (.str s)) [] [] rfl trivial rfl hK
  · have d3 : decide ((u : Int) < 100) = false := decide_eq_false (by omega)
    have kn := @numDigits1 ro hT u (by omega) (by omega)
    by_cases h3 : u < 1000
    · rw [if_pos h3] at kn
      have kb := @base3 ro u (by omega) h3
      conv => whnf
      repeat' ((first | rw [hw] | ((with_reducible refine y'r ?_ ?_); (· decide +kernel)) | ((with_reducible refine y'g ?_ ?_); (· exact ⟨_, rfl⟩)) | (with_reducible first | refine y'b ‹_› ?_ | refine y'n ‹_› ?_ | refine y'1 ‹_› ?_ | refine y'2 ‹_› ?_ | refine y'3 ?_ | refine y'4 ?_) | ((with_reducible refine y'n ?_ ?_); (· first | with_reducible assumption | exact decide_eq_true (by omega) | exact mkOK_of (by decide) | decide +kernel | (refine decide_eq_true ?_; simp (disch := omega) only [i64w]; omega))) | (with_reducible first | refine y'n (y'7 ‹_› ‹_›) ?_ | refine y'v (y'8 ‹_› ‹_›) (fun s hs => ?_) | refine y'5 ‹_› ?_ | refine y'6 ‹_› ?_) | ((with_reducible refine y'p ?_ ?_); (· rfl)) | ((with_reducible refine y'q ?_ ?_); (· rfl)) | (refine Fn.frame [] (by rfl) (by exact trivial) (by rfl) (kn ?_)) | (refine Fn.frame [0] (by rfl) (by exact ⟨rfl, trivial⟩) (by rfl) (kb false ?_)) | fail) <;> (conv => whnf))
      have e : ita u = ⟨#[UInt8.ofNat (48 + u / 100), UInt8.ofNat (48 + u % 100 / 10), UInt8.ofNat (48 + u % 100 % 10)]⟩ := by
        unfold ita dig
        rw [if_neg (by omega), if_neg h, if_pos h3]
      simp only [eb]
      exact keepOf (v₀ := .a (.str (ita u))) [] [] (congrArg (fun s => V.a (.str s)) e.symm) trivial rfl hK
    · rw [if_neg h3, if_pos hu] at kn
      have kb := @base4 ro u (by omega) hu
      conv => whnf
      repeat' ((first | rw [hw] | ((with_reducible refine y'r ?_ ?_); (· decide +kernel)) | ((with_reducible refine y'g ?_ ?_); (· exact ⟨_, rfl⟩)) | (with_reducible first | refine y'b ‹_› ?_ | refine y'n ‹_› ?_ | refine y'1 ‹_› ?_ | refine y'2 ‹_› ?_ | refine y'3 ?_ | refine y'4 ?_) | ((with_reducible refine y'n ?_ ?_); (· first | with_reducible assumption | exact decide_eq_true (by omega) | exact mkOK_of (by decide) | decide +kernel | (refine decide_eq_true ?_; simp (disch := omega) only [i64w]; omega))) | (with_reducible first | refine y'n (y'7 ‹_› ‹_›) ?_ | refine y'v (y'8 ‹_› ‹_›) (fun s hs => ?_) | refine y'5 ‹_› ?_ | refine y'6 ‹_› ?_) | ((with_reducible refine y'p ?_ ?_); (· rfl)) | ((with_reducible refine y'q ?_ ?_); (· rfl)) | (refine Fn.frame [] (by rfl) (by exact trivial) (by rfl) (kn ?_)) | (refine Fn.frame [0] (by rfl) (by exact ⟨rfl, trivial⟩) (by rfl) (kb false ?_)) | fail) <;> (conv => whnf))
      have e : ita u = ⟨#[UInt8.ofNat (48 + u / 100 / 10), UInt8.ofNat (48 + u / 100 % 10), UInt8.ofNat (48 + u % 100 / 10), UInt8.ofNat (48 + u % 100 % 10)]⟩ := by
        unfold ita dig
        rw [if_neg (by omega), if_neg h, if_neg h3, if_pos hu]
      simp only [eb]
      exact keepOf (v₀ := .a (.str (ita u))) [] [] (congrArg (fun s => V.a (.str s)) e.symm) trivial rfl hK
theorem itoaIn (hT : Tens ro) (u : Nat) (hu : u < 10000) {K : V → Hp → Prop} (hK : K (.a (.str (ita u))) []) :
    Go.Eng.Fn Tryd.prog ro 19 [.a (.int .i64 (u : Int))] [] K := by
  have kf := @formatInt ro hT u hu
  generalize ita u = s at *
  refine Fn.weak ?_
  refine Fn.of_code (gOf []) Tryd.func19 rfl (Nat.le_of_ble_eq_true rfl) ?_
  conv => whnf
  repeat' ((first | ((with_reducible refine y'r ?_ ?_); (· decide +kernel)) | ((with_reducible refine y'g ?_ ?_); (· exact ⟨_, rfl⟩)) | (with_reducible first | refine y'b ‹_› ?_ | refine y'n ‹_› ?_ | refine y'1 ‹_› ?_ | refine y'2 ‹_› ?_ | refine y'3 ?_ | refine y'4 ?_) | ((with_reducible refine y'n ?_ ?_); (· first | with_reducible assumption | exact decide_eq_true (by omega) | exact mkOK_of (by decide) | decide +kernel | (refine decide_eq_true ?_; simp (disch := omega) only [i64w]; omega))) | (with_reducible first | refine y'n (y'7 ‹_› ‹_›) ?_ | refine y'v (y'8 ‹_› ‹_›) (fun s hs => ?_) | refine y'5 ‹_› ?_ | refine y'6 ‹_› ?_) | ((with_reducible refine y'p ?_ ?_); (· rfl)) | ((with_reducible refine y'q ?_ ?_); (· rfl)) | fail) <;> (conv => whnf))
  refine Fn.frame [] (by rfl) (by exact trivial) (by rfl) (kf ?_)
  conv => whnf
  repeat' ((first | ((with_reducible refine y'r ?_ ?_); (· decide +kernel)) | ((with_reducible refine y'g ?_ ?_); (· exact ⟨_, rfl⟩)) | (with_reducible first | refine y'b ‹_› ?_ | refine y'n ‹_› ?_ | refine y'1 ‹_› ?_ | refine y'2 ‹_› ?_ | refine y'3 ?_ | refine y'4 ?_) | ((with_reducible refine y'n ?_ ?_); (· first | with_reducible assumption | exact decide_eq_true (by omega) | exact mkOK_of (by decide) | decide +kernel | (refine decide_eq_true ?_; simp (disch := omega) only [i64w]; omega))) | (with_reducible first | refine y'n (y'7 ‹_› ‹_›) ?_ | refine y'v (y'8 ‹_› ‹_›) (fun s hs => ?_) | refine y'5 ‹_› ?_ | refine y'6 ‹_› ?_) | ((with_reducible refine y'p ?_ ?_); (· rfl)) | ((with_reducible refine y'q ?_ ?_); (· rfl)) | fail) <;> (conv => whnf))
  exact keepOf (v₀ := .a (.str s)) [] [] rfl trivial rfl hK
theorem itoaOut (hT : Tens ro) (u : Nat) (hu : u < 10000) {K : V → Hp → Prop} (hK : K (.a (.str (ita u))) []) :
    Go.Eng.Fn Tryd.prog ro 13 [.a (.int .i64 (u : Int))] [] K := by
  have kf := @itoaIn ro hT u hu
  generalize ita u = s at *
  refine Fn.weak ?_
  refine Fn.of_code (gOf []) Tryd.func13 rfl (Nat.le_of_ble_eq_true rfl) ?_
  conv => whnf
  repeat' ((first | ((with_reducible refine y'r ?_ ?_); (· decide +kernel)) | ((with_reducible refine y'g ?_ ?_); (· exact ⟨_, rfl⟩)) | (with_reducible first | refine y'b ‹_› ?_ | refine y'n ‹_› ?_ | refine y'1 ‹_› ?_ | refine y'2 ‹_› ?_ | refine y'3 ?_ | refine y'4 ?_) | ((with_reducible refine y'n ?_ ?_); (· first | with_reducible assumption | exact decide_eq_true (by omega) | exact mkOK_of (by decide) | decide +kernel | (refine decide_eq_true ?_; simp (disch := omega) only [i64w]; omega))) | (with_reducible first | refine y'n (y'7 ‹_› ‹_›) ?_ | refine y'v (y'8 ‹_› ‹_›) (fun s hs => ?_) | refine y'5 ‹_› ?_ | refine y'6 ‹_› ?_) | ((with_reducible refine y'p ?_ ?_); (· rfl)) | ((with_reducible refine y'q ?_ ?_); (· rfl)) | fail) <;> (conv => whnf))
  refine Fn.frame [] (by rfl) (by exact trivial) (by rfl) (kf ?_)
  conv => whnf
  repeat' ((first | ((with_reducible refine y'r ?_ ?_); (· decide +kernel)) | ((with_reducible refine y'g ?_ ?_); (· exact ⟨_, rfl⟩)) | (with_reducible first | refine y'b ‹_› ?_ | refine y'n ‹_› ?_ | refine y'1 ‹_› ?_ | refine y'2 ‹_› ?_ | refine y'3 ?_ | refine y'4 ?_) | ((with_reducible refine y'n ?_ ?_); (· first | with_reducible assumption | exact decide_eq_true (by omega) | exact mkOK_of (by decide) | decide +kernel | (refine decide_eq_true ?_; simp (disch := omega) only [i64w]; omega))) | (with_reducible first | refine y'n (y'7 ‹_› ‹_›) ?_ | refine y'v (y'8 ‹_› ‹_›) (fun s hs => ?_) | refine y'5 ‹_› ?_ | refine y'6 ‹_› ?_) | ((with_reducible refine y'p ?_ ?_); (· rfl)) | ((with_reducible refine y'q ?_ ?_); (· rfl)) | fail) <;> (conv => whnf))
  exact keepOf (v₀ := .a (.str s)) [] [] rfl trivial rfl hK
theorem itaRep (hT : Tens ro) : Rep ro ita := ⟨fun n hn _ hK => itoaOut hT n (by omega) hK, ita_few⟩
end
end Go.Proofs.YtefimkcfaoabpaaDoor.TA
