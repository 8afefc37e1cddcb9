import Derived.Test.YtimddbgnaeeggaaDoorUF
import Derived.Test.YtimddbgnaeeggaaDoorUT
namespace Go.Proofs.YtimddbgnaeeggaaDoor.KD
open Go.Eng
set_option maxRecDepth 100000
section
variable {ro : Addr → A → Prop}
set_option maxHeartbeats 4000000 in
theorem lattice4 (hT : Tabs ro) (L M N : List UInt8) :
    Go.Eng.Fn Tryd.prog ro 4 [.a (.str (bs L)), .a (.str (bs M)), .a (.str (bs N))] [] (fun v _ => v = .a (.bool true)) := by
  have k1 := @joinB ro hT L M
  have k2 := @joinB ro hT M L
  rw [law_comm L M] at k2
  have kK := @kindB ro L
  have l0 := law_errs L M
  have bLM := @belowB ro hT L M
  have bML := @belowB ro hT M L
  have bLN := @belowB ro hT L N
  have bMN := @belowB ro hT M N
  have jMN := @joinB ro hT M N
  have lself := @law_self L
  have kS := @joinB ro hT L L
  have bS := @belowB ro hT L L
  have l120 := @law_120 L M
  have l120' : (jnB L M).2 ≠ 0 → blB M L = false := fun h => law_120 (by rw [law_comm]; exact h)
  have lanti := @law_anti L M
  have lup := @law_up L M
  have llub := @law_lub L M N
  have lass := @law_assoc L M N
  obtain ⟨⟨U, e⟩, hU⟩ : ∃ p, p = jnB L M := ⟨_, rfl⟩
  obtain ⟨⟨X, h⟩, hX⟩ : ∃ p, p = jnB M N := ⟨_, rfl⟩
  rw [← hU] at k1 k2 l0 l120 l120' lup llub lass
  rw [← hX] at jMN lass
  have jUN := @joinB ro hT U N
  have jLX := @joinB ro hT L X
  have kU := @kindB ro U
  have bLU := @belowB ro hT L U
  have bMU := @belowB ro hT M U
  have bUN := @belowB ro hT U N
  obtain ⟨⟨Y, g⟩, hY⟩ : ∃ p, p = jnB U N := ⟨_, rfl⟩
  obtain ⟨⟨Z, i⟩, hZ⟩ : ∃ p, p = jnB L X := ⟨_, rfl⟩
  simp only at k1 k2 jMN l0 l120 l120' lup llub lass
  rw [← hY] at jUN lass
  rw [← hZ] at jLX lass
  simp only at jUN jLX lass
  clear hU hX hY hZ
  have eqs : ∀ x : ByteArray, (!(x.data.toList == x.data.toList)) = false := fun x => by simp
  have hne : ∀ x y : List UInt8, x = y → (!((bs x).data.toList == (bs y).data.toList)) = false := fun x y h => by rw [h]; exact eqs _
  have lanti' : blB L M = true → blB M L = true → (!((bs L).data.toList == (bs M).data.toList)) = false := fun h1 h2 => hne _ _ (lanti h1 h2)
  have lass' : e = 0 → h = 0 → g = 0 → i = 0 → (!((bs Z).data.toList == (bs Y).data.toList)) = false := fun h1 h2 h3 h4 => hne _ _ (lass h1 h2 h3 h4)
  have kS' : kd L ≠ 0 → ∀ K : V → Hp → Prop, K (.t [.a (.str (bs L)), .a (.int .i64 0)]) [] → Go.Eng.Fn Tryd.prog ro 17 [.a (.str (bs L)), .a (.str (bs L))] [] K := fun h K hK => kS (by rw [(lself h).1]; exact hK)
  have bS' : kd L ≠ 0 → ∀ K : V → Hp → Prop, K (.a (.bool true)) [] → Go.Eng.Fn Tryd.prog ro 13 [.a (.str (bs L)), .a (.str (bs L))] [] K := fun h K hK => bS (by rw [(lself h).2]; exact hK)
  clear lanti lass hne kS bS lself
  generalize bs L = a at *
  generalize bs M = b at *
  generalize bs N = c at *
  generalize bs U = ab at *
  generalize bs X = bc at *
  generalize bs Y = abc at *
  generalize bs Z = again at *
  generalize blB L M = t1 at *
  generalize blB M L = t2 at *
  generalize blB L N = t3 at *
  generalize blB M N = t4 at *
  generalize blB L U = t5 at *
  generalize blB M U = t6 at *
  generalize blB U N = t7 at *
  generalize kd L = n at *
  generalize kd U = m at *
  refine Go.Eng.Fn.of_code (cutAt [9, 16, 20, 22, 24] (gOf [])) Tryd.func4 rfl (Nat.le_of_ble_eq_true rfl) ?_
  conv => whnf
  repeat' ((first | ((with_reducible refine regx_of ?_ ?_); (· decide +kernel)) | ((with_reducible refine growx_pre ?_ ?_); (· exact ⟨_, rfl⟩)) | (with_reducible first | refine condm_b ‹_› ?_ | refine needm_of ‹_› ?_ | refine forceL_fv ‹_› ?_ | refine forceL_rfv ‹_› ?_ | refine forceNm_of ?_ | refine forceA_of ?_) | ((with_reducible refine needm_of ?_ ?_); (· first | with_reducible assumption | exact decide_eq_true (by omega) | exact mkOK_of (by decide) | decide +kernel | (refine decide_eq_true ?_; simp (disch := omega) only [i64w]; omega))) | (with_reducible first | refine needm_of (fv_lenL ‹_› ‹_›) ?_ | refine optm_var (fv_strL ‹_› ‹_›) (fun s hs => ?_)) | ((with_reducible refine condm_pos ?_ ?_); (· rfl)) | ((with_reducible refine condm_neg ?_ ?_); (· rfl)) | fail) <;> (conv => whnf))
  refine Go.Eng.Fn.frame [] (by rfl) (by exact trivial) (by rfl) (k1 ?_)
  conv => whnf
  repeat' ((first | ((with_reducible refine regx_of ?_ ?_); (· decide +kernel)) | ((with_reducible refine growx_pre ?_ ?_); (· exact ⟨_, rfl⟩)) | (with_reducible first | refine condm_b ‹_› ?_ | refine needm_of ‹_› ?_ | refine forceL_fv ‹_› ?_ | refine forceL_rfv ‹_› ?_ | refine forceNm_of ?_ | refine forceA_of ?_) | ((with_reducible refine needm_of ?_ ?_); (· first | with_reducible assumption | exact decide_eq_true (by omega) | exact mkOK_of (by decide) | decide +kernel | (refine decide_eq_true ?_; simp (disch := omega) only [i64w]; omega))) | (with_reducible first | refine needm_of (fv_lenL ‹_› ‹_›) ?_ | refine optm_var (fv_strL ‹_› ‹_›) (fun s hs => ?_)) | ((with_reducible refine condm_pos ?_ ?_); (· rfl)) | ((with_reducible refine condm_neg ?_ ?_); (· rfl)) | fail) <;> (conv => whnf))
  refine Go.Eng.Fn.frame [] (by rfl) (by exact trivial) (by rfl) (k2 ?_)
  have e0 : (e != e) = false := by simp
  have e1 := eqs ab
  conv => whnf
  repeat' ((first | ((with_reducible refine regx_of ?_ ?_); (· decide +kernel)) | ((with_reducible refine growx_pre ?_ ?_); (· exact ⟨_, rfl⟩)) | (with_reducible first | refine condm_b ‹_› ?_ | refine needm_of ‹_› ?_ | refine forceL_fv ‹_› ?_ | refine forceL_rfv ‹_› ?_ | refine forceNm_of ?_ | refine forceA_of ?_) | ((with_reducible refine needm_of ?_ ?_); (· first | with_reducible assumption | exact decide_eq_true (by omega) | exact mkOK_of (by decide) | decide +kernel | (refine decide_eq_true ?_; simp (disch := omega) only [i64w]; omega))) | (with_reducible first | refine needm_of (fv_lenL ‹_› ‹_›) ?_ | refine optm_var (fv_strL ‹_› ‹_›) (fun s hs => ?_)) | ((with_reducible refine condm_pos ?_ ?_); (· rfl)) | ((with_reducible refine condm_neg ?_ ?_); (· rfl)) | fail) <;> (conv => whnf))
  refine Go.Eng.Fn.frame [] (by rfl) (by exact trivial) (by rfl) (kK ?_)
  by_cases hn : n = 0
  case' pos =>
    have cn : ((n : Int) != 0) = false := by rw [hn]; rfl
    conv => whnf
    repeat' ((first | ((with_reducible refine regx_of ?_ ?_); (· decide +kernel)) | ((with_reducible refine growx_pre ?_ ?_); (· exact ⟨_, rfl⟩)) | (with_reducible first | refine condm_b ‹_› ?_ | refine needm_of ‹_› ?_ | refine forceL_fv ‹_› ?_ | refine forceL_rfv ‹_› ?_ | refine forceNm_of ?_ | refine forceA_of ?_) | ((with_reducible refine needm_of ?_ ?_); (· first | with_reducible assumption | exact decide_eq_true (by omega) | exact mkOK_of (by decide) | decide +kernel | (refine decide_eq_true ?_; simp (disch := omega) only [i64w]; omega))) | (with_reducible first | refine needm_of (fv_lenL ‹_› ‹_›) ?_ | refine optm_var (fv_strL ‹_› ‹_›) (fun s hs => ?_)) | ((with_reducible refine condm_pos ?_ ?_); (· rfl)) | ((with_reducible refine condm_neg ?_ ?_); (· rfl)) | fail) <;> (conv => whnf))
  case' neg =>
    have cn : ((n : Int) != 0) = true := by simp; omega
    conv => whnf
    repeat' ((first | ((with_reducible refine regx_of ?_ ?_); (· decide +kernel)) | ((with_reducible refine growx_pre ?_ ?_); (· exact ⟨_, rfl⟩)) | (with_reducible first | refine condm_b ‹_› ?_ | refine needm_of ‹_› ?_ | refine forceL_fv ‹_› ?_ | refine forceL_rfv ‹_› ?_ | refine forceNm_of ?_ | refine forceA_of ?_) | ((with_reducible refine needm_of ?_ ?_); (· first | with_reducible assumption | exact decide_eq_true (by omega) | exact mkOK_of (by decide) | decide +kernel | (refine decide_eq_true ?_; simp (disch := omega) only [i64w]; omega))) | (with_reducible first | refine needm_of (fv_lenL ‹_› ‹_›) ?_ | refine optm_var (fv_strL ‹_› ‹_›) (fun s hs => ?_)) | ((with_reducible refine condm_pos ?_ ?_); (· rfl)) | ((with_reducible refine condm_neg ?_ ?_); (· rfl)) | fail) <;> (conv => whnf))
    refine Go.Eng.Fn.frame [] (by rfl) (by exact trivial) (by rfl) (kS' hn _ ?_)
    have e2 := eqs a
    conv => whnf
    repeat' ((first | ((with_reducible refine regx_of ?_ ?_); (· decide +kernel)) | ((with_reducible refine growx_pre ?_ ?_); (· exact ⟨_, rfl⟩)) | (with_reducible first | refine condm_b ‹_› ?_ | refine needm_of ‹_› ?_ | refine forceL_fv ‹_› ?_ | refine forceL_rfv ‹_› ?_ | refine forceNm_of ?_ | refine forceA_of ?_) | ((with_reducible refine needm_of ?_ ?_); (· first | with_reducible assumption | exact decide_eq_true (by omega) | exact mkOK_of (by decide) | decide +kernel | (refine decide_eq_true ?_; simp (disch := omega) only [i64w]; omega))) | (with_reducible first | refine needm_of (fv_lenL ‹_› ‹_›) ?_ | refine optm_var (fv_strL ‹_› ‹_›) (fun s hs => ?_)) | ((with_reducible refine condm_pos ?_ ?_); (· rfl)) | ((with_reducible refine condm_neg ?_ ?_); (· rfl)) | fail) <;> (conv => whnf))
    refine Go.Eng.Fn.frame [] (by rfl) (by exact trivial) (by rfl) (bS' hn _ ?_)
    conv => whnf
    repeat' ((first | ((with_reducible refine regx_of ?_ ?_); (· decide +kernel)) | ((with_reducible refine growx_pre ?_ ?_); (· exact ⟨_, rfl⟩)) | (with_reducible first | refine condm_b ‹_› ?_ | refine needm_of ‹_› ?_ | refine forceL_fv ‹_› ?_ | refine forceL_rfv ‹_› ?_ | refine forceNm_of ?_ | refine forceA_of ?_) | ((with_reducible refine needm_of ?_ ?_); (· first | with_reducible assumption | exact decide_eq_true (by omega) | exact mkOK_of (by decide) | decide +kernel | (refine decide_eq_true ?_; simp (disch := omega) only [i64w]; omega))) | (with_reducible first | refine needm_of (fv_lenL ‹_› ‹_›) ?_ | refine optm_var (fv_strL ‹_› ‹_›) (fun s hs => ?_)) | ((with_reducible refine condm_pos ?_ ?_); (· rfl)) | ((with_reducible refine condm_neg ?_ ?_); (· rfl)) | fail) <;> (conv => whnf))
  all_goals
    refine cutx_of (fun F H => F = [(0, .a (.str a)), (1, .a (.str b)), (2, .a (.str c)), (7, .a (.str ab)), (8, .a (.int .i64 e))] ∧ H = []) (Into.weak [] [(0, .a (.str a)), (1, .a (.str b)), (2, .a (.str c)), (7, .a (.str ab)), (8, .a (.int .i64 e))] [] ⟨rfl, rfl⟩ ⟨rfl, rfl, rfl, rfl, rfl, trivial⟩ trivial rfl) ?_
    rintro F H ⟨rfl, rfl⟩
    clear kS' bS' k1 k2
    by_cases he : e = 0
    · subst he
      obtain ⟨u1, u2, u3⟩ := lup rfl
      subst u1 u2 u3
      have q0 : ((m : Int) != (m : Int)) = false := by simp
      conv => whnf
      repeat' ((first | ((with_reducible refine regx_of ?_ ?_); (· decide +kernel)) | ((with_reducible refine growx_pre ?_ ?_); (· exact ⟨_, rfl⟩)) | (with_reducible first | refine condm_b ‹_› ?_ | refine needm_of ‹_› ?_ | refine forceL_fv ‹_› ?_ | refine forceL_rfv ‹_› ?_ | refine forceNm_of ?_ | refine forceA_of ?_) | ((with_reducible refine needm_of ?_ ?_); (· first | with_reducible assumption | exact decide_eq_true (by omega) | exact mkOK_of (by decide) | decide +kernel | (refine decide_eq_true ?_; simp (disch := omega) only [i64w]; omega))) | (with_reducible first | refine needm_of (fv_lenL ‹_› ‹_›) ?_ | refine optm_var (fv_strL ‹_› ‹_›) (fun s hs => ?_)) | ((with_reducible refine condm_pos ?_ ?_); (· rfl)) | ((with_reducible refine condm_neg ?_ ?_); (· rfl)) | fail) <;> (conv => whnf))
      refine Go.Eng.Fn.frame [] (by rfl) (by exact trivial) (by rfl) (jUN ?_)
      conv => whnf
      repeat' ((first | ((with_reducible refine regx_of ?_ ?_); (· decide +kernel)) | ((with_reducible refine growx_pre ?_ ?_); (· exact ⟨_, rfl⟩)) | (with_reducible first | refine condm_b ‹_› ?_ | refine needm_of ‹_› ?_ | refine forceL_fv ‹_› ?_ | refine forceL_rfv ‹_› ?_ | refine forceNm_of ?_ | refine forceA_of ?_) | ((with_reducible refine needm_of ?_ ?_); (· first | with_reducible assumption | exact decide_eq_true (by omega) | exact mkOK_of (by decide) | decide +kernel | (refine decide_eq_true ?_; simp (disch := omega) only [i64w]; omega))) | (with_reducible first | refine needm_of (fv_lenL ‹_› ‹_›) ?_ | refine optm_var (fv_strL ‹_› ‹_›) (fun s hs => ?_)) | ((with_reducible refine condm_pos ?_ ?_); (· rfl)) | ((with_reducible refine condm_neg ?_ ?_); (· rfl)) | fail) <;> (conv => whnf))
      refine Go.Eng.Fn.frame [] (by rfl) (by exact trivial) (by rfl) (jMN ?_)
      conv => whnf
      repeat' ((first | ((with_reducible refine regx_of ?_ ?_); (· decide +kernel)) | ((with_reducible refine growx_pre ?_ ?_); (· exact ⟨_, rfl⟩)) | (with_reducible first | refine condm_b ‹_› ?_ | refine needm_of ‹_› ?_ | refine forceL_fv ‹_› ?_ | refine forceL_rfv ‹_› ?_ | refine forceNm_of ?_ | refine forceA_of ?_) | ((with_reducible refine needm_of ?_ ?_); (· first | with_reducible assumption | exact decide_eq_true (by omega) | exact mkOK_of (by decide) | decide +kernel | (refine decide_eq_true ?_; simp (disch := omega) only [i64w]; omega))) | (with_reducible first | refine needm_of (fv_lenL ‹_› ‹_›) ?_ | refine optm_var (fv_strL ‹_› ‹_›) (fun s hs => ?_)) | ((with_reducible refine condm_pos ?_ ?_); (· rfl)) | ((with_reducible refine condm_neg ?_ ?_); (· rfl)) | fail) <;> (conv => whnf))
      refine Go.Eng.Fn.frame [] (by rfl) (by exact trivial) (by rfl) (kU ?_)
      conv => whnf
      repeat' ((first | ((with_reducible refine regx_of ?_ ?_); (· decide +kernel)) | ((with_reducible refine growx_pre ?_ ?_); (· exact ⟨_, rfl⟩)) | (with_reducible first | refine condm_b ‹_› ?_ | refine needm_of ‹_› ?_ | refine forceL_fv ‹_› ?_ | refine forceL_rfv ‹_› ?_ | refine forceNm_of ?_ | refine forceA_of ?_) | ((with_reducible refine needm_of ?_ ?_); (· first | with_reducible assumption | exact decide_eq_true (by omega) | exact mkOK_of (by decide) | decide +kernel | (refine decide_eq_true ?_; simp (disch := omega) only [i64w]; omega))) | (with_reducible first | refine needm_of (fv_lenL ‹_› ‹_›) ?_ | refine optm_var (fv_strL ‹_› ‹_›) (fun s hs => ?_)) | ((with_reducible refine condm_pos ?_ ?_); (· rfl)) | ((with_reducible refine condm_neg ?_ ?_); (· rfl)) | fail) <;> (conv => whnf))
      refine Go.Eng.Fn.frame [] (by rfl) (by exact trivial) (by rfl) (kK ?_)
      conv => whnf
      repeat' ((first | ((with_reducible refine regx_of ?_ ?_); (· decide +kernel)) | ((with_reducible refine growx_pre ?_ ?_); (· exact ⟨_, rfl⟩)) | (with_reducible first | refine condm_b ‹_› ?_ | refine needm_of ‹_› ?_ | refine forceL_fv ‹_› ?_ | refine forceL_rfv ‹_› ?_ | refine forceNm_of ?_ | refine forceA_of ?_) | ((with_reducible refine needm_of ?_ ?_); (· first | with_reducible assumption | exact decide_eq_true (by omega) | exact mkOK_of (by decide) | decide +kernel | (refine decide_eq_true ?_; simp (disch := omega) only [i64w]; omega))) | (with_reducible first | refine needm_of (fv_lenL ‹_› ‹_›) ?_ | refine optm_var (fv_strL ‹_› ‹_›) (fun s hs => ?_)) | ((with_reducible refine condm_pos ?_ ?_); (· rfl)) | ((with_reducible refine condm_neg ?_ ?_); (· rfl)) | fail) <;> (conv => whnf))
      refine Go.Eng.Fn.frame [] (by rfl) (by exact trivial) (by rfl) (bLU ?_)
      conv => whnf
      repeat' ((first | ((with_reducible refine regx_of ?_ ?_); (· decide +kernel)) | ((with_reducible refine growx_pre ?_ ?_); (· exact ⟨_, rfl⟩)) | (with_reducible first | refine condm_b ‹_› ?_ | refine needm_of ‹_› ?_ | refine forceL_fv ‹_› ?_ | refine forceL_rfv ‹_› ?_ | refine forceNm_of ?_ | refine forceA_of ?_) | ((with_reducible refine needm_of ?_ ?_); (· first | with_reducible assumption | exact decide_eq_true (by omega) | exact mkOK_of (by decide) | decide +kernel | (refine decide_eq_true ?_; simp (disch := omega) only [i64w]; omega))) | (with_reducible first | refine needm_of (fv_lenL ‹_› ‹_›) ?_ | refine optm_var (fv_strL ‹_› ‹_›) (fun s hs => ?_)) | ((with_reducible refine condm_pos ?_ ?_); (· rfl)) | ((with_reducible refine condm_neg ?_ ?_); (· rfl)) | fail) <;> (conv => whnf))
      refine Go.Eng.Fn.frame [] (by rfl) (by exact trivial) (by rfl) (bMU ?_)
      conv => whnf
      repeat' ((first | ((with_reducible refine regx_of ?_ ?_); (· decide +kernel)) | ((with_reducible refine growx_pre ?_ ?_); (· exact ⟨_, rfl⟩)) | (with_reducible first | refine condm_b ‹_› ?_ | refine needm_of ‹_› ?_ | refine forceL_fv ‹_› ?_ | refine forceL_rfv ‹_› ?_ | refine forceNm_of ?_ | refine forceA_of ?_) | ((with_reducible refine needm_of ?_ ?_); (· first | with_reducible assumption | exact decide_eq_true (by omega) | exact mkOK_of (by decide) | decide +kernel | (refine decide_eq_true ?_; simp (disch := omega) only [i64w]; omega))) | (with_reducible first | refine needm_of (fv_lenL ‹_› ‹_›) ?_ | refine optm_var (fv_strL ‹_› ‹_›) (fun s hs => ?_)) | ((with_reducible refine condm_pos ?_ ?_); (· rfl)) | ((with_reducible refine condm_neg ?_ ?_); (· rfl)) | fail) <;> (conv => whnf))
      refine Go.Eng.Fn.frame [] (by rfl) (by exact trivial) (by rfl) (bLN ?_)
      have sp : t3 = false ∨ (t3 = true ∧ t4 = false) ∨ (t3 = true ∧ t4 = true) := by cases t3 <;> cases t4 <;> simp
      rcases sp with rfl | ⟨rfl, rfl⟩ | ⟨rfl, rfl⟩
      case' inl =>
        conv => whnf
        repeat' ((first | ((with_reducible refine regx_of ?_ ?_); (· decide +kernel)) | ((with_reducible refine growx_pre ?_ ?_); (· exact ⟨_, rfl⟩)) | (with_reducible first | refine condm_b ‹_› ?_ | refine needm_of ‹_› ?_ | refine forceL_fv ‹_› ?_ | refine forceL_rfv ‹_› ?_ | refine forceNm_of ?_ | refine forceA_of ?_) | ((with_reducible refine needm_of ?_ ?_); (· first | with_reducible assumption | exact decide_eq_true (by omega) | exact mkOK_of (by decide) | decide +kernel | (refine decide_eq_true ?_; simp (disch := omega) only [i64w]; omega))) | (with_reducible first | refine needm_of (fv_lenL ‹_› ‹_›) ?_ | refine optm_var (fv_strL ‹_› ‹_›) (fun s hs => ?_)) | ((with_reducible refine condm_pos ?_ ?_); (· rfl)) | ((with_reducible refine condm_neg ?_ ?_); (· rfl)) | fail) <;> (conv => whnf))
      case' inr.inl =>
        conv => whnf
        repeat' ((first | ((with_reducible refine regx_of ?_ ?_); (· decide +kernel)) | ((with_reducible refine growx_pre ?_ ?_); (· exact ⟨_, rfl⟩)) | (with_reducible first | refine condm_b ‹_› ?_ | refine needm_of ‹_› ?_ | refine forceL_fv ‹_› ?_ | refine forceL_rfv ‹_› ?_ | refine forceNm_of ?_ | refine forceA_of ?_) | ((with_reducible refine needm_of ?_ ?_); (· first | with_reducible assumption | exact decide_eq_true (by omega) | exact mkOK_of (by decide) | decide +kernel | (refine decide_eq_true ?_; simp (disch := omega) only [i64w]; omega))) | (with_reducible first | refine needm_of (fv_lenL ‹_› ‹_›) ?_ | refine optm_var (fv_strL ‹_› ‹_›) (fun s hs => ?_)) | ((with_reducible refine condm_pos ?_ ?_); (· rfl)) | ((with_reducible refine condm_neg ?_ ?_); (· rfl)) | fail) <;> (conv => whnf))
        refine Go.Eng.Fn.frame [] (by rfl) (by exact trivial) (by rfl) (bMN ?_)
        conv => whnf
        repeat' ((first | ((with_reducible refine regx_of ?_ ?_); (· decide +kernel)) | ((with_reducible refine growx_pre ?_ ?_); (· exact ⟨_, rfl⟩)) | (with_reducible first | refine condm_b ‹_› ?_ | refine needm_of ‹_› ?_ | refine forceL_fv ‹_› ?_ | refine forceL_rfv ‹_› ?_ | refine forceNm_of ?_ | refine forceA_of ?_) | ((with_reducible refine needm_of ?_ ?_); (· first | with_reducible assumption | exact decide_eq_true (by omega) | exact mkOK_of (by decide) | decide +kernel | (refine decide_eq_true ?_; simp (disch := omega) only [i64w]; omega))) | (with_reducible first | refine needm_of (fv_lenL ‹_› ‹_›) ?_ | refine optm_var (fv_strL ‹_› ‹_›) (fun s hs => ?_)) | ((with_reducible refine condm_pos ?_ ?_); (· rfl)) | ((with_reducible refine condm_neg ?_ ?_); (· rfl)) | fail) <;> (conv => whnf))
      case' inr.inr =>
        obtain rfl := llub rfl rfl rfl
        conv => whnf
        repeat' ((first | ((with_reducible refine regx_of ?_ ?_); (· decide +kernel)) | ((with_reducible refine growx_pre ?_ ?_); (· exact ⟨_, rfl⟩)) | (with_reducible first | refine condm_b ‹_› ?_ | refine needm_of ‹_› ?_ | refine forceL_fv ‹_› ?_ | refine forceL_rfv ‹_› ?_ | refine forceNm_of ?_ | refine forceA_of ?_) | ((with_reducible refine needm_of ?_ ?_); (· first | with_reducible assumption | exact decide_eq_true (by omega) | exact mkOK_of (by decide) | decide +kernel | (refine decide_eq_true ?_; simp (disch := omega) only [i64w]; omega))) | (with_reducible first | refine needm_of (fv_lenL ‹_› ‹_›) ?_ | refine optm_var (fv_strL ‹_› ‹_›) (fun s hs => ?_)) | ((with_reducible refine condm_pos ?_ ?_); (· rfl)) | ((with_reducible refine condm_neg ?_ ?_); (· rfl)) | fail) <;> (conv => whnf))
        refine Go.Eng.Fn.frame [] (by rfl) (by exact trivial) (by rfl) (bMN ?_)
        conv => whnf
        repeat' ((first | ((with_reducible refine regx_of ?_ ?_); (· decide +kernel)) | ((with_reducible refine growx_pre ?_ ?_); (· exact ⟨_, rfl⟩)) | (with_reducible first | refine condm_b ‹_› ?_ | refine needm_of ‹_› ?_ | refine forceL_fv ‹_› ?_ | refine forceL_rfv ‹_› ?_ | refine forceNm_of ?_ | refine forceA_of ?_) | ((with_reducible refine needm_of ?_ ?_); (· first | with_reducible assumption | exact decide_eq_true (by omega) | exact mkOK_of (by decide) | decide +kernel | (refine decide_eq_true ?_; simp (disch := omega) only [i64w]; omega))) | (with_reducible first | refine needm_of (fv_lenL ‹_› ‹_›) ?_ | refine optm_var (fv_strL ‹_› ‹_›) (fun s hs => ?_)) | ((with_reducible refine condm_pos ?_ ?_); (· rfl)) | ((with_reducible refine condm_neg ?_ ?_); (· rfl)) | fail) <;> (conv => whnf))
        refine Go.Eng.Fn.frame [] (by rfl) (by exact trivial) (by rfl) (bUN ?_)
        conv => whnf
        repeat' ((first | ((with_reducible refine regx_of ?_ ?_); (· decide +kernel)) | ((with_reducible refine growx_pre ?_ ?_); (· exact ⟨_, rfl⟩)) | (with_reducible first | refine condm_b ‹_› ?_ | refine needm_of ‹_› ?_ | refine forceL_fv ‹_› ?_ | refine forceL_rfv ‹_› ?_ | refine forceNm_of ?_ | refine forceA_of ?_) | ((with_reducible refine needm_of ?_ ?_); (· first | with_reducible assumption | exact decide_eq_true (by omega) | exact mkOK_of (by decide) | decide +kernel | (refine decide_eq_true ?_; simp (disch := omega) only [i64w]; omega))) | (with_reducible first | refine needm_of (fv_lenL ‹_› ‹_›) ?_ | refine optm_var (fv_strL ‹_› ‹_›) (fun s hs => ?_)) | ((with_reducible refine condm_pos ?_ ?_); (· rfl)) | ((with_reducible refine condm_neg ?_ ?_); (· rfl)) | fail) <;> (conv => whnf))
      all_goals
        refine cutx_of (fun F H => F = [(0, .a (.str a)), (1, .a (.str b)), (2, .a (.str c)), (7, .a (.str ab)), (8, .a (.int .i64 0)), (13, .a (.str abc)), (14, .a (.int .i64 g)), (15, .a (.str bc)), (16, .a (.int .i64 h))] ∧ H = []) (Into.weak [] [(0, .a (.str a)), (1, .a (.str b)), (2, .a (.str c)), (7, .a (.str ab)), (8, .a (.int .i64 0)), (13, .a (.str abc)), (14, .a (.int .i64 g)), (15, .a (.str bc)), (16, .a (.int .i64 h))] [] ⟨rfl, rfl⟩ ⟨rfl, rfl, rfl, rfl, rfl, rfl, rfl, rfl, rfl, trivial⟩ trivial rfl) ?_
        rintro F H ⟨rfl, rfl⟩
        clear kK kU bLU bMU bLN bMN bUN jUN jMN
        by_cases hh : h = 0
        case' neg =>
          have q2 : (h == 0) = false := by simp [hh]
          conv => whnf
          repeat' ((first | ((with_reducible refine regx_of ?_ ?_); (· decide +kernel)) | ((with_reducible refine growx_pre ?_ ?_); (· exact ⟨_, rfl⟩)) | (with_reducible first | refine condm_b ‹_› ?_ | refine needm_of ‹_› ?_ | refine forceL_fv ‹_› ?_ | refine forceL_rfv ‹_› ?_ | refine forceNm_of ?_ | refine forceA_of ?_) | ((with_reducible refine needm_of ?_ ?_); (· first | with_reducible assumption | exact decide_eq_true (by omega) | exact mkOK_of (by decide) | decide +kernel | (refine decide_eq_true ?_; simp (disch := omega) only [i64w]; omega))) | (with_reducible first | refine needm_of (fv_lenL ‹_› ‹_›) ?_ | refine optm_var (fv_strL ‹_› ‹_›) (fun s hs => ?_)) | ((with_reducible refine condm_pos ?_ ?_); (· rfl)) | ((with_reducible refine condm_neg ?_ ?_); (· rfl)) | fail) <;> (conv => whnf))
        case' pos =>
          have q2 : (h == 0) = true := by simp [hh]
          conv => whnf
          repeat' ((first | ((with_reducible refine regx_of ?_ ?_); (· decide +kernel)) | ((with_reducible refine growx_pre ?_ ?_); (· exact ⟨_, rfl⟩)) | (with_reducible first | refine condm_b ‹_› ?_ | refine needm_of ‹_› ?_ | refine forceL_fv ‹_› ?_ | refine forceL_rfv ‹_› ?_ | refine forceNm_of ?_ | refine forceA_of ?_) | ((with_reducible refine needm_of ?_ ?_); (· first | with_reducible assumption | exact decide_eq_true (by omega) | exact mkOK_of (by decide) | decide +kernel | (refine decide_eq_true ?_; simp (disch := omega) only [i64w]; omega))) | (with_reducible first | refine needm_of (fv_lenL ‹_› ‹_›) ?_ | refine optm_var (fv_strL ‹_› ‹_›) (fun s hs => ?_)) | ((with_reducible refine condm_pos ?_ ?_); (· rfl)) | ((with_reducible refine condm_neg ?_ ?_); (· rfl)) | fail) <;> (conv => whnf))
          refine Go.Eng.Fn.frame [] (by rfl) (by exact trivial) (by rfl) (jLX ?_)
          conv => whnf
          repeat' ((first | ((with_reducible refine regx_of ?_ ?_); (· decide +kernel)) | ((with_reducible refine growx_pre ?_ ?_); (· exact ⟨_, rfl⟩)) | (with_reducible first | refine condm_b ‹_› ?_ | refine needm_of ‹_› ?_ | refine forceL_fv ‹_› ?_ | refine forceL_rfv ‹_› ?_ | refine forceNm_of ?_ | refine forceA_of ?_) | ((with_reducible refine needm_of ?_ ?_); (· first | with_reducible assumption | exact decide_eq_true (by omega) | exact mkOK_of (by decide) | decide +kernel | (refine decide_eq_true ?_; simp (disch := omega) only [i64w]; omega))) | (with_reducible first | refine needm_of (fv_lenL ‹_› ‹_›) ?_ | refine optm_var (fv_strL ‹_› ‹_›) (fun s hs => ?_)) | ((with_reducible refine condm_pos ?_ ?_); (· rfl)) | ((with_reducible refine condm_neg ?_ ?_); (· rfl)) | fail) <;> (conv => whnf))
          by_cases hg : g = 0
          case' neg =>
            have q3 : (g == 0) = false := by simp [hg]
            conv => whnf
            repeat' ((first | ((with_reducible refine regx_of ?_ ?_); (· decide +kernel)) | ((with_reducible refine growx_pre ?_ ?_); (· exact ⟨_, rfl⟩)) | (with_reducible first | refine condm_b ‹_› ?_ | refine needm_of ‹_› ?_ | refine forceL_fv ‹_› ?_ | refine forceL_rfv ‹_› ?_ | refine forceNm_of ?_ | refine forceA_of ?_) | ((with_reducible refine needm_of ?_ ?_); (· first | with_reducible assumption | exact decide_eq_true (by omega) | exact mkOK_of (by decide) | decide +kernel | (refine decide_eq_true ?_; simp (disch := omega) only [i64w]; omega))) | (with_reducible first | refine needm_of (fv_lenL ‹_› ‹_›) ?_ | refine optm_var (fv_strL ‹_› ‹_›) (fun s hs => ?_)) | ((with_reducible refine condm_pos ?_ ?_); (· rfl)) | ((with_reducible refine condm_neg ?_ ?_); (· rfl)) | fail) <;> (conv => whnf))
          case' pos =>
            have q3 : (g == 0) = true := by simp [hg]
            by_cases hi : i = 0
            case' neg =>
              have q4 : (i == 0) = false := by simp [hi]
              conv => whnf
              repeat' ((first | ((with_reducible refine regx_of ?_ ?_); (· decide +kernel)) | ((with_reducible refine growx_pre ?_ ?_); (· exact ⟨_, rfl⟩)) | (with_reducible first | refine condm_b ‹_› ?_ | refine needm_of ‹_› ?_ | refine forceL_fv ‹_› ?_ | refine forceL_rfv ‹_› ?_ | refine forceNm_of ?_ | refine forceA_of ?_) | ((with_reducible refine needm_of ?_ ?_); (· first | with_reducible assumption | exact decide_eq_true (by omega) | exact mkOK_of (by decide) | decide +kernel | (refine decide_eq_true ?_; simp (disch := omega) only [i64w]; omega))) | (with_reducible first | refine needm_of (fv_lenL ‹_› ‹_›) ?_ | refine optm_var (fv_strL ‹_› ‹_›) (fun s hs => ?_)) | ((with_reducible refine condm_pos ?_ ?_); (· rfl)) | ((with_reducible refine condm_neg ?_ ?_); (· rfl)) | fail) <;> (conv => whnf))
            case' pos =>
              have q4 : (i == 0) = true := by simp [hi]
              have q5 := lass' rfl hh hg hi
              conv => whnf
              repeat' ((first | ((with_reducible refine regx_of ?_ ?_); (· decide +kernel)) | ((with_reducible refine growx_pre ?_ ?_); (· exact ⟨_, rfl⟩)) | (with_reducible first | refine condm_b ‹_› ?_ | refine needm_of ‹_› ?_ | refine forceL_fv ‹_› ?_ | refine forceL_rfv ‹_› ?_ | refine forceNm_of ?_ | refine forceA_of ?_) | ((with_reducible refine needm_of ?_ ?_); (· first | with_reducible assumption | exact decide_eq_true (by omega) | exact mkOK_of (by decide) | decide +kernel | (refine decide_eq_true ?_; simp (disch := omega) only [i64w]; omega))) | (with_reducible first | refine needm_of (fv_lenL ‹_› ‹_›) ?_ | refine optm_var (fv_strL ‹_› ‹_›) (fun s hs => ?_)) | ((with_reducible refine condm_pos ?_ ?_); (· rfl)) | ((with_reducible refine condm_neg ?_ ?_); (· rfl)) | fail) <;> (conv => whnf))
        all_goals
          refine cutx_of (fun F H => F = [(0, .a (.str a)), (1, .a (.str b)), (8, .a (.int .i64 0))] ∧ H = []) (Into.weak [] [(0, .a (.str a)), (1, .a (.str b)), (8, .a (.int .i64 0))] [] ⟨rfl, rfl⟩ ⟨rfl, rfl, rfl, trivial⟩ trivial rfl) ?_
          rintro F H ⟨rfl, rfl⟩
          conv => whnf
          repeat' ((first | ((with_reducible refine regx_of ?_ ?_); (· decide +kernel)) | ((with_reducible refine growx_pre ?_ ?_); (· exact ⟨_, rfl⟩)) | (with_reducible first | refine condm_b ‹_› ?_ | refine needm_of ‹_› ?_ | refine forceL_fv ‹_› ?_ | refine forceL_rfv ‹_› ?_ | refine forceNm_of ?_ | refine forceA_of ?_) | ((with_reducible refine needm_of ?_ ?_); (· first | with_reducible assumption | exact decide_eq_true (by omega) | exact mkOK_of (by decide) | decide +kernel | (refine decide_eq_true ?_; simp (disch := omega) only [i64w]; omega))) | (with_reducible first | refine needm_of (fv_lenL ‹_› ‹_›) ?_ | refine optm_var (fv_strL ‹_› ‹_›) (fun s hs => ?_)) | ((with_reducible refine condm_pos ?_ ?_); (· rfl)) | ((with_reducible refine condm_neg ?_ ?_); (· rfl)) | fail) <;> (conv => whnf))
          refine cutx_of (fun F H => F = [(0, .a (.str a)), (1, .a (.str b))] ∧ H = []) (Into.weak [] [(0, .a (.str a)), (1, .a (.str b))] [] ⟨rfl, rfl⟩ ⟨rfl, rfl, trivial⟩ trivial rfl) ?_
          rintro F H ⟨rfl, rfl⟩
          have sp : t1 = false ∨ (t1 = true ∧ t2 = false) ∨ (t1 = true ∧ t2 = true) := by cases t1 <;> cases t2 <;> simp
          rcases sp with rfl | ⟨rfl, rfl⟩ | ⟨rfl, rfl⟩
          case' inl =>
            conv => whnf
            repeat' ((first | ((with_reducible refine regx_of ?_ ?_); (· decide +kernel)) | ((with_reducible refine growx_pre ?_ ?_); (· exact ⟨_, rfl⟩)) | (with_reducible first | refine condm_b ‹_› ?_ | refine needm_of ‹_› ?_ | refine forceL_fv ‹_› ?_ | refine forceL_rfv ‹_› ?_ | refine forceNm_of ?_ | refine forceA_of ?_) | ((with_reducible refine needm_of ?_ ?_); (· first | with_reducible assumption | exact decide_eq_true (by omega) | exact mkOK_of (by decide) | decide +kernel | (refine decide_eq_true ?_; simp (disch := omega) only [i64w]; omega))) | (with_reducible first | refine needm_of (fv_lenL ‹_› ‹_›) ?_ | refine optm_var (fv_strL ‹_› ‹_›) (fun s hs => ?_)) | ((with_reducible refine condm_pos ?_ ?_); (· rfl)) | ((with_reducible refine condm_neg ?_ ?_); (· rfl)) | fail) <;> (conv => whnf))
            refine Go.Eng.Fn.frame [] (by rfl) (by exact trivial) (by rfl) (bLM ?_)
            conv => whnf
            repeat' ((first | ((with_reducible refine regx_of ?_ ?_); (· decide +kernel)) | ((with_reducible refine growx_pre ?_ ?_); (· exact ⟨_, rfl⟩)) | (with_reducible first | refine condm_b ‹_› ?_ | refine needm_of ‹_› ?_ | refine forceL_fv ‹_› ?_ | refine forceL_rfv ‹_› ?_ | refine forceNm_of ?_ | refine forceA_of ?_) | ((with_reducible refine needm_of ?_ ?_); (· first | with_reducible assumption | exact decide_eq_true (by omega) | exact mkOK_of (by decide) | decide +kernel | (refine decide_eq_true ?_; simp (disch := omega) only [i64w]; omega))) | (with_reducible first | refine needm_of (fv_lenL ‹_› ‹_›) ?_ | refine optm_var (fv_strL ‹_› ‹_›) (fun s hs => ?_)) | ((with_reducible refine condm_pos ?_ ?_); (· rfl)) | ((with_reducible refine condm_neg ?_ ?_); (· rfl)) | fail) <;> (conv => whnf))
          case' inr.inl =>
            conv => whnf
            repeat' ((first | ((with_reducible refine regx_of ?_ ?_); (· decide +kernel)) | ((with_reducible refine growx_pre ?_ ?_); (· exact ⟨_, rfl⟩)) | (with_reducible first | refine condm_b ‹_› ?_ | refine needm_of ‹_› ?_ | refine forceL_fv ‹_› ?_ | refine forceL_rfv ‹_› ?_ | refine forceNm_of ?_ | refine forceA_of ?_) | ((with_reducible refine needm_of ?_ ?_); (· first | with_reducible assumption | exact decide_eq_true (by omega) | exact mkOK_of (by decide) | decide +kernel | (refine decide_eq_true ?_; simp (disch := omega) only [i64w]; omega))) | (with_reducible first | refine needm_of (fv_lenL ‹_› ‹_›) ?_ | refine optm_var (fv_strL ‹_› ‹_›) (fun s hs => ?_)) | ((with_reducible refine condm_pos ?_ ?_); (· rfl)) | ((with_reducible refine condm_neg ?_ ?_); (· rfl)) | fail) <;> (conv => whnf))
            refine Go.Eng.Fn.frame [] (by rfl) (by exact trivial) (by rfl) (bLM ?_)
            conv => whnf
            repeat' ((first | ((with_reducible refine regx_of ?_ ?_); (· decide +kernel)) | ((with_reducible refine growx_pre ?_ ?_); (· exact ⟨_, rfl⟩)) | (with_reducible first | refine condm_b ‹_› ?_ | refine needm_of ‹_› ?_ | refine forceL_fv ‹_› ?_ | refine forceL_rfv ‹_› ?_ | refine forceNm_of ?_ | refine forceA_of ?_) | ((with_reducible refine needm_of ?_ ?_); (· first | with_reducible assumption | exact decide_eq_true (by omega) | exact mkOK_of (by decide) | decide +kernel | (refine decide_eq_true ?_; simp (disch := omega) only [i64w]; omega))) | (with_reducible first | refine needm_of (fv_lenL ‹_› ‹_›) ?_ | refine optm_var (fv_strL ‹_› ‹_›) (fun s hs => ?_)) | ((with_reducible refine condm_pos ?_ ?_); (· rfl)) | ((with_reducible refine condm_neg ?_ ?_); (· rfl)) | fail) <;> (conv => whnf))
            refine Go.Eng.Fn.frame [] (by rfl) (by exact trivial) (by rfl) (bML ?_)
            conv => whnf
            repeat' ((first | ((with_reducible refine regx_of ?_ ?_); (· decide +kernel)) | ((with_reducible refine growx_pre ?_ ?_); (· exact ⟨_, rfl⟩)) | (with_reducible first | refine condm_b ‹_› ?_ | refine needm_of ‹_› ?_ | refine forceL_fv ‹_› ?_ | refine forceL_rfv ‹_› ?_ | refine forceNm_of ?_ | refine forceA_of ?_) | ((with_reducible refine needm_of ?_ ?_); (· first | with_reducible assumption | exact decide_eq_true (by omega) | exact mkOK_of (by decide) | decide +kernel | (refine decide_eq_true ?_; simp (disch := omega) only [i64w]; omega))) | (with_reducible first | refine needm_of (fv_lenL ‹_› ‹_›) ?_ | refine optm_var (fv_strL ‹_› ‹_›) (fun s hs => ?_)) | ((with_reducible refine condm_pos ?_ ?_); (· rfl)) | ((with_reducible refine condm_neg ?_ ?_); (· rfl)) | fail) <;> (conv => whnf))
          case' inr.inr =>
            have q1 := lanti' rfl rfl
            conv => whnf
            repeat' ((first | ((with_reducible refine regx_of ?_ ?_); (· decide +kernel)) | ((with_reducible refine growx_pre ?_ ?_); (· exact ⟨_, rfl⟩)) | (with_reducible first | refine condm_b ‹_› ?_ | refine needm_of ‹_› ?_ | refine forceL_fv ‹_› ?_ | refine forceL_rfv ‹_› ?_ | refine forceNm_of ?_ | refine forceA_of ?_) | ((with_reducible refine needm_of ?_ ?_); (· first | with_reducible assumption | exact decide_eq_true (by omega) | exact mkOK_of (by decide) | decide +kernel | (refine decide_eq_true ?_; simp (disch := omega) only [i64w]; omega))) | (with_reducible first | refine needm_of (fv_lenL ‹_› ‹_›) ?_ | refine optm_var (fv_strL ‹_› ‹_›) (fun s hs => ?_)) | ((with_reducible refine condm_pos ?_ ?_); (· rfl)) | ((with_reducible refine condm_neg ?_ ?_); (· rfl)) | fail) <;> (conv => whnf))
            refine Go.Eng.Fn.frame [] (by rfl) (by exact trivial) (by rfl) (bLM ?_)
            conv => whnf
            repeat' ((first | ((with_reducible refine regx_of ?_ ?_); (· decide +kernel)) | ((with_reducible refine growx_pre ?_ ?_); (· exact ⟨_, rfl⟩)) | (with_reducible first | refine condm_b ‹_› ?_ | refine needm_of ‹_› ?_ | refine forceL_fv ‹_› ?_ | refine forceL_rfv ‹_› ?_ | refine forceNm_of ?_ | refine forceA_of ?_) | ((with_reducible refine needm_of ?_ ?_); (· first | with_reducible assumption | exact decide_eq_true (by omega) | exact mkOK_of (by decide) | decide +kernel | (refine decide_eq_true ?_; simp (disch := omega) only [i64w]; omega))) | (with_reducible first | refine needm_of (fv_lenL ‹_› ‹_›) ?_ | refine optm_var (fv_strL ‹_› ‹_›) (fun s hs => ?_)) | ((with_reducible refine condm_pos ?_ ?_); (· rfl)) | ((with_reducible refine condm_neg ?_ ?_); (· rfl)) | fail) <;> (conv => whnf))
            refine Go.Eng.Fn.frame [] (by rfl) (by exact trivial) (by rfl) (bML ?_)
            conv => whnf
            repeat' ((first | ((with_reducible refine regx_of ?_ ?_); (· decide +kernel)) | ((with_reducible refine growx_pre ?_ ?_); (· exact ⟨_, rfl⟩)) | (with_reducible first | refine condm_b ‹_› ?_ | refine needm_of ‹_› ?_ | refine forceL_fv ‹_› ?_ | refine forceL_rfv ‹_› ?_ | refine forceNm_of ?_ | refine forceA_of ?_) | ((with_reducible refine needm_of ?_ ?_); (· first | with_reducible assumption | exact decide_eq_true (by omega) | exact mkOK_of (by decide) | decide +kernel | (refine decide_eq_true ?_; simp (disch := omega) only [i64w]; omega))) | (with_reducible first | refine needm_of (fv_lenL ‹_› ‹_›) ?_ | refine optm_var (fv_strL ‹_› ‹_›) (fun s hs => ?_)) | ((with_reducible refine condm_pos ?_ ?_); (· rfl)) | ((with_reducible refine condm_neg ?_ ?_); (· rfl)) | fail) <;> (conv => whnf))
          all_goals
            refine cutx_of (fun F H => F = [] ∧ H = []) (Into.weak [] [] [] ⟨rfl, rfl⟩ trivial trivial rfl) ?_
            rintro F H ⟨rfl, rfl⟩
            conv => whnf
            repeat' ((first | ((with_reducible refine regx_of ?_ ?_); (· decide +kernel)) | ((with_reducible refine growx_pre ?_ ?_); (· exact ⟨_, rfl⟩)) | (with_reducible first | refine condm_b ‹_› ?_ | refine needm_of ‹_› ?_ | refine forceL_fv ‹_› ?_ | refine forceL_rfv ‹_› ?_ | refine forceNm_of ?_ | refine forceA_of ?_) | ((with_reducible refine needm_of ?_ ?_); (· first | with_reducible assumption | exact decide_eq_true (by omega) | exact mkOK_of (by decide) | decide +kernel | (refine decide_eq_true ?_; simp (disch := omega) only [i64w]; omega))) | (with_reducible first | refine needm_of (fv_lenL ‹_› ‹_›) ?_ | refine optm_var (fv_strL ‹_› ‹_›) (fun s hs => ?_)) | ((with_reducible refine condm_pos ?_ ?_); (· rfl)) | ((with_reducible refine condm_neg ?_ ?_); (· rfl)) | fail) <;> (conv => whnf))
            refine Go.Eng.Fn.frame [] (by rfl) (by exact trivial) (by rfl) (alive25 ?_)
            conv => whnf
            repeat' ((first | ((with_reducible refine regx_of ?_ ?_); (· decide +kernel)) | ((with_reducible refine growx_pre ?_ ?_); (· exact ⟨_, rfl⟩)) | (with_reducible first | refine condm_b ‹_› ?_ | refine needm_of ‹_› ?_ | refine forceL_fv ‹_› ?_ | refine forceL_rfv ‹_› ?_ | refine forceNm_of ?_ | refine forceA_of ?_) | ((with_reducible refine needm_of ?_ ?_); (· first | with_reducible assumption | exact decide_eq_true (by omega) | exact mkOK_of (by decide) | decide +kernel | (refine decide_eq_true ?_; simp (disch := omega) only [i64w]; omega))) | (with_reducible first | refine needm_of (fv_lenL ‹_› ‹_›) ?_ | refine optm_var (fv_strL ‹_› ‹_›) (fun s hs => ?_)) | ((with_reducible refine condm_pos ?_ ?_); (· rfl)) | ((with_reducible refine condm_neg ?_ ?_); (· rfl)) | fail) <;> (conv => whnf))
    · have he0 : (e == 0) = false := by simp [he]
      have he1 : (e != 0) = true := by simp [he]
      obtain rfl := l120 he
      obtain rfl := l120' he
      conv => whnf
      repeat' ((first | ((with_reducible refine regx_of ?_ ?_); (· decide +kernel)) | ((with_reducible refine growx_pre ?_ ?_); (· exact ⟨_, rfl⟩)) | (with_reducible first | refine condm_b ‹_› ?_ | refine needm_of ‹_› ?_ | refine forceL_fv ‹_› ?_ | refine forceL_rfv ‹_› ?_ | refine forceNm_of ?_ | refine forceA_of ?_) | ((with_reducible refine needm_of ?_ ?_); (· first | with_reducible assumption | exact decide_eq_true (by omega) | exact mkOK_of (by decide) | decide +kernel | (refine decide_eq_true ?_; simp (disch := omega) only [i64w]; omega))) | (with_reducible first | refine needm_of (fv_lenL ‹_› ‹_›) ?_ | refine optm_var (fv_strL ‹_› ‹_›) (fun s hs => ?_)) | ((with_reducible refine condm_pos ?_ ?_); (· rfl)) | ((with_reducible refine condm_neg ?_ ?_); (· rfl)) | fail) <;> (conv => whnf))
      refine cutx_of (fun F H => F = [(0, .a (.str a)), (1, .a (.str b)), (8, .a (.int .i64 e))] ∧ H = []) (Into.weak [] [(0, .a (.str a)), (1, .a (.str b)), (8, .a (.int .i64 e))] [] ⟨rfl, rfl⟩ ⟨rfl, rfl, rfl, trivial⟩ trivial rfl) ?_
      rintro F H ⟨rfl, rfl⟩
      rcases l0 with h0 | h0 | h0
      · exact absurd h0 he
      · subst h0
        conv => whnf
        repeat' ((first | ((with_reducible refine regx_of ?_ ?_); (· decide +kernel)) | ((with_reducible refine growx_pre ?_ ?_); (· exact ⟨_, rfl⟩)) | (with_reducible first | refine condm_b ‹_› ?_ | refine needm_of ‹_› ?_ | refine forceL_fv ‹_› ?_ | refine forceL_rfv ‹_› ?_ | refine forceNm_of ?_ | refine forceA_of ?_) | ((with_reducible refine needm_of ?_ ?_); (· first | with_reducible assumption | exact decide_eq_true (by omega) | exact mkOK_of (by decide) | decide +kernel | (refine decide_eq_true ?_; simp (disch := omega) only [i64w]; omega))) | (with_reducible first | refine needm_of (fv_lenL ‹_› ‹_›) ?_ | refine optm_var (fv_strL ‹_› ‹_›) (fun s hs => ?_)) | ((with_reducible refine condm_pos ?_ ?_); (· rfl)) | ((with_reducible refine condm_neg ?_ ?_); (· rfl)) | fail) <;> (conv => whnf))
        refine cutx_of (fun F H => F = [(0, .a (.str a)), (1, .a (.str b))] ∧ H = []) (Into.weak [] [(0, .a (.str a)), (1, .a (.str b))] [] ⟨rfl, rfl⟩ ⟨rfl, rfl, trivial⟩ trivial rfl) ?_
        rintro F H ⟨rfl, rfl⟩
        conv => whnf
        repeat' ((first | ((with_reducible refine regx_of ?_ ?_); (· decide +kernel)) | ((with_reducible refine growx_pre ?_ ?_); (· exact ⟨_, rfl⟩)) | (with_reducible first | refine condm_b ‹_› ?_ | refine needm_of ‹_› ?_ | refine forceL_fv ‹_› ?_ | refine forceL_rfv ‹_› ?_ | refine forceNm_of ?_ | refine forceA_of ?_) | ((with_reducible refine needm_of ?_ ?_); (· first | with_reducible assumption | exact decide_eq_true (by omega) | exact mkOK_of (by decide) | decide +kernel | (refine decide_eq_true ?_; simp (disch := omega) only [i64w]; omega))) | (with_reducible first | refine needm_of (fv_lenL ‹_› ‹_›) ?_ | refine optm_var (fv_strL ‹_› ‹_›) (fun s hs => ?_)) | ((with_reducible refine condm_pos ?_ ?_); (· rfl)) | ((with_reducible refine condm_neg ?_ ?_); (· rfl)) | fail) <;> (conv => whnf))
        refine Go.Eng.Fn.frame [] (by rfl) (by exact trivial) (by rfl) (bLM ?_)
        conv => whnf
        repeat' ((first | ((with_reducible refine regx_of ?_ ?_); (· decide +kernel)) | ((with_reducible refine growx_pre ?_ ?_); (· exact ⟨_, rfl⟩)) | (with_reducible first | refine condm_b ‹_› ?_ | refine needm_of ‹_› ?_ | refine forceL_fv ‹_› ?_ | refine forceL_rfv ‹_› ?_ | refine forceNm_of ?_ | refine forceA_of ?_) | ((with_reducible refine needm_of ?_ ?_); (· first | with_reducible assumption | exact decide_eq_true (by omega) | exact mkOK_of (by decide) | decide +kernel | (refine decide_eq_true ?_; simp (disch := omega) only [i64w]; omega))) | (with_reducible first | refine needm_of (fv_lenL ‹_› ‹_›) ?_ | refine optm_var (fv_strL ‹_› ‹_›) (fun s hs => ?_)) | ((with_reducible refine condm_pos ?_ ?_); (· rfl)) | ((with_reducible refine condm_neg ?_ ?_); (· rfl)) | fail) <;> (conv => whnf))
        refine cutx_of (fun F H => F = [] ∧ H = []) (Into.weak [] [] [] ⟨rfl, rfl⟩ trivial trivial rfl) ?_
        rintro F H ⟨rfl, rfl⟩
        conv => whnf
        repeat' ((first | ((with_reducible refine regx_of ?_ ?_); (· decide +kernel)) | ((with_reducible refine growx_pre ?_ ?_); (· exact ⟨_, rfl⟩)) | (with_reducible first | refine condm_b ‹_› ?_ | refine needm_of ‹_› ?_ | refine forceL_fv ‹_› ?_ | refine forceL_rfv ‹_› ?_ | refine forceNm_of ?_ | refine forceA_of ?_) | ((with_reducible refine needm_of ?_ ?_); (· first | with_reducible assumption | exact decide_eq_true (by omega) | exact mkOK_of (by decide) | decide +kernel | (refine decide_eq_true ?_; simp (disch := omega) only [i64w]; omega))) | (with_reducible first | refine needm_of (fv_lenL ‹_› ‹_›) ?_ | refine optm_var (fv_strL ‹_› ‹_›) (fun s hs => ?_)) | ((with_reducible refine condm_pos ?_ ?_); (· rfl)) | ((with_reducible refine condm_neg ?_ ?_); (· rfl)) | fail) <;> (conv => whnf))
        refine Go.Eng.Fn.frame [] (by rfl) (by exact trivial) (by rfl) (alive25 ?_)
        conv => whnf
        repeat' ((first | ((with_reducible refine regx_of ?_ ?_); (· decide +kernel)) | ((with_reducible refine growx_pre ?_ ?_); (· exact ⟨_, rfl⟩)) | (with_reducible first | refine condm_b ‹_› ?_ | refine needm_of ‹_› ?_ | refine forceL_fv ‹_› ?_ | refine forceL_rfv ‹_› ?_ | refine forceNm_of ?_ | refine forceA_of ?_) | ((with_reducible refine needm_of ?_ ?_); (· first | with_reducible assumption | exact decide_eq_true (by omega) | exact mkOK_of (by decide) | decide +kernel | (refine decide_eq_true ?_; simp (disch := omega) only [i64w]; omega))) | (with_reducible first | refine needm_of (fv_lenL ‹_› ‹_›) ?_ | refine optm_var (fv_strL ‹_› ‹_›) (fun s hs => ?_)) | ((with_reducible refine condm_pos ?_ ?_); (· rfl)) | ((with_reducible refine condm_neg ?_ ?_); (· rfl)) | fail) <;> (conv => whnf))
      · subst h0
        conv => whnf
        repeat' ((first | ((with_reducible refine regx_of ?_ ?_); (· decide +kernel)) | ((with_reducible refine growx_pre ?_ ?_); (· exact ⟨_, rfl⟩)) | (with_reducible first | refine condm_b ‹_› ?_ | refine needm_of ‹_› ?_ | refine forceL_fv ‹_› ?_ | refine forceL_rfv ‹_› ?_ | refine forceNm_of ?_ | refine forceA_of ?_) | ((with_reducible refine needm_of ?_ ?_); (· first | with_reducible assumption | exact decide_eq_true (by omega) | exact mkOK_of (by decide) | decide +kernel | (refine decide_eq_true ?_; simp (disch := omega) only [i64w]; omega))) | (with_reducible first | refine needm_of (fv_lenL ‹_› ‹_›) ?_ | refine optm_var (fv_strL ‹_› ‹_›) (fun s hs => ?_)) | ((with_reducible refine condm_pos ?_ ?_); (· rfl)) | ((with_reducible refine condm_neg ?_ ?_); (· rfl)) | fail) <;> (conv => whnf))
        refine Go.Eng.Fn.frame [] (by rfl) (by exact trivial) (by rfl) (bLM ?_)
        conv => whnf
        repeat' ((first | ((with_reducible refine regx_of ?_ ?_); (· decide +kernel)) | ((with_reducible refine growx_pre ?_ ?_); (· exact ⟨_, rfl⟩)) | (with_reducible first | refine condm_b ‹_› ?_ | refine needm_of ‹_› ?_ | refine forceL_fv ‹_› ?_ | refine forceL_rfv ‹_› ?_ | refine forceNm_of ?_ | refine forceA_of ?_) | ((with_reducible refine needm_of ?_ ?_); (· first | with_reducible assumption | exact decide_eq_true (by omega) | exact mkOK_of (by decide) | decide +kernel | (refine decide_eq_true ?_; simp (disch := omega) only [i64w]; omega))) | (with_reducible first | refine needm_of (fv_lenL ‹_› ‹_›) ?_ | refine optm_var (fv_strL ‹_› ‹_›) (fun s hs => ?_)) | ((with_reducible refine condm_pos ?_ ?_); (· rfl)) | ((with_reducible refine condm_neg ?_ ?_); (· rfl)) | fail) <;> (conv => whnf))
        refine Go.Eng.Fn.frame [] (by rfl) (by exact trivial) (by rfl) (bML ?_)
        conv => whnf
        repeat' ((first | ((with_reducible refine regx_of ?_ ?_); (· decide +kernel)) | ((with_reducible refine growx_pre ?_ ?_); (· exact ⟨_, rfl⟩)) | (with_reducible first | refine condm_b ‹_› ?_ | refine needm_of ‹_› ?_ | refine forceL_fv ‹_› ?_ | refine forceL_rfv ‹_› ?_ | refine forceNm_of ?_ | refine forceA_of ?_) | ((with_reducible refine needm_of ?_ ?_); (· first | with_reducible assumption | exact decide_eq_true (by omega) | exact mkOK_of (by decide) | decide +kernel | (refine decide_eq_true ?_; simp (disch := omega) only [i64w]; omega))) | (with_reducible first | refine needm_of (fv_lenL ‹_› ‹_›) ?_ | refine optm_var (fv_strL ‹_› ‹_›) (fun s hs => ?_)) | ((with_reducible refine condm_pos ?_ ?_); (· rfl)) | ((with_reducible refine condm_neg ?_ ?_); (· rfl)) | fail) <;> (conv => whnf))
        refine cutx_of (fun F H => F = [(0, .a (.str a)), (1, .a (.str b))] ∧ H = []) (Into.weak [] [(0, .a (.str a)), (1, .a (.str b))] [] ⟨rfl, rfl⟩ ⟨rfl, rfl, trivial⟩ trivial rfl) ?_
        rintro F H ⟨rfl, rfl⟩
        conv => whnf
        repeat' ((first | ((with_reducible refine regx_of ?_ ?_); (· decide +kernel)) | ((with_reducible refine growx_pre ?_ ?_); (· exact ⟨_, rfl⟩)) | (with_reducible first | refine condm_b ‹_› ?_ | refine needm_of ‹_› ?_ | refine forceL_fv ‹_› ?_ | refine forceL_rfv ‹_› ?_ | refine forceNm_of ?_ | refine forceA_of ?_) | ((with_reducible refine needm_of ?_ ?_); (· first | with_reducible assumption | exact decide_eq_true (by omega) | exact mkOK_of (by decide) | decide +kernel | (refine decide_eq_true ?_; simp (disch := omega) only [i64w]; omega))) | (with_reducible first | refine needm_of (fv_lenL ‹_› ‹_›) ?_ | refine optm_var (fv_strL ‹_› ‹_›) (fun s hs => ?_)) | ((with_reducible refine condm_pos ?_ ?_); (· rfl)) | ((with_reducible refine condm_neg ?_ ?_); (· rfl)) | fail) <;> (conv => whnf))
        refine Go.Eng.Fn.frame [] (by rfl) (by exact trivial) (by rfl) (bLM ?_)
        conv => whnf
        repeat' ((first | ((with_reducible refine regx_of ?_ ?_); (· decide +kernel)) | ((with_reducible refine growx_pre ?_ ?_); (· exact ⟨_, rfl⟩)) | (with_reducible first | refine condm_b ‹_› ?_ | refine needm_of ‹_› ?_ | refine forceL_fv ‹_› ?_ | refine forceL_rfv ‹_› ?_ | refine forceNm_of ?_ | refine forceA_of ?_) | ((with_reducible refine needm_of ?_ ?_); (· first | with_reducible assumption | exact decide_eq_true (by omega) | exact mkOK_of (by decide) | decide +kernel | (refine decide_eq_true ?_; simp (disch := omega) only [i64w]; omega))) | (with_reducible first | refine needm_of (fv_lenL ‹_› ‹_›) ?_ | refine optm_var (fv_strL ‹_› ‹_›) (fun s hs => ?_)) | ((with_reducible refine condm_pos ?_ ?_); (· rfl)) | ((with_reducible refine condm_neg ?_ ?_); (· rfl)) | fail) <;> (conv => whnf))
        refine cutx_of (fun F H => F = [] ∧ H = []) (Into.weak [] [] [] ⟨rfl, rfl⟩ trivial trivial rfl) ?_
        rintro F H ⟨rfl, rfl⟩
        conv => whnf
        repeat' ((first | ((with_reducible refine regx_of ?_ ?_); (· decide +kernel)) | ((with_reducible refine growx_pre ?_ ?_); (· exact ⟨_, rfl⟩)) | (with_reducible first | refine condm_b ‹_› ?_ | refine needm_of ‹_› ?_ | refine forceL_fv ‹_› ?_ | refine forceL_rfv ‹_› ?_ | refine forceNm_of ?_ | refine forceA_of ?_) | ((with_reducible refine needm_of ?_ ?_); (· first | with_reducible assumption | exact decide_eq_true (by omega) | exact mkOK_of (by decide) | decide +kernel | (refine decide_eq_true ?_; simp (disch := omega) only [i64w]; omega))) | (with_reducible first | refine needm_of (fv_lenL ‹_› ‹_›) ?_ | refine optm_var (fv_strL ‹_› ‹_›) (fun s hs => ?_)) | ((with_reducible refine condm_pos ?_ ?_); (· rfl)) | ((with_reducible refine condm_neg ?_ ?_); (· rfl)) | fail) <;> (conv => whnf))
        refine Go.Eng.Fn.frame [] (by rfl) (by exact trivial) (by rfl) (alive25 ?_)
        conv => whnf
        repeat' ((first | ((with_reducible refine regx_of ?_ ?_); (· decide +kernel)) | ((with_reducible refine growx_pre ?_ ?_); (· exact ⟨_, rfl⟩)) | (with_reducible first | refine condm_b ‹_› ?_ | refine needm_of ‹_› ?_ | refine forceL_fv ‹_› ?_ | refine forceL_rfv ‹_› ?_ | refine forceNm_of ?_ | refine forceA_of ?_) | ((with_reducible refine needm_of ?_ ?_); (· first | with_reducible assumption | exact decide_eq_true (by omega) | exact mkOK_of (by decide) | decide +kernel | (refine decide_eq_true ?_; simp (disch := omega) only [i64w]; omega))) | (with_reducible first | refine needm_of (fv_lenL ‹_› ‹_›) ?_ | refine optm_var (fv_strL ‹_› ‹_›) (fun s hs => ?_)) | ((with_reducible refine condm_pos ?_ ?_); (· rfl)) | ((with_reducible refine condm_neg ?_ ?_); (· rfl)) | fail) <;> (conv => whnf))
end
theorem topLattice (W : World) (hL : laidMetH Tryd.prog Rows.kindsLatticeRow.laid W) (s : ByteArray) (_ : s.size ≤ 140737488351232) (t : ByteArray) (_ : t.size ≤ 140737488351232) (u : ByteArray) (_ : u.size ≤ 140737488351232) :
    Go.Eng.Fn Tryd.prog (roOf W) 4 [.a (.str s), .a (.str t), .a (.str u)] [] (fun v _ => v = .a (.bool true)) := by
  rw [bs_eq s, bs_eq t, bs_eq u]
  exact lattice4 (tabs_of hL) _ _ _
end Go.Proofs.YtimddbgnaeeggaaDoor.KD
