import Derived.Test.YtmnimmhpclhmfaaPE
namespace Go.Proofs.Ytmnimmhpclhmfaa.PC
open Go.Eng
set_option maxRecDepth 100000
section
variable {ro : Addr → A → Prop}
set_option maxHeartbeats 400000 in
theorem of38z (i : Int) {K : V → Hp → Prop} (hK : K (.t [.a .nilp, .a (.int .i64 2)]) []) : Go.Eng.Fn Try.prog ro 38 [.a .nilp, .a (.int .i64 i)] [] K := by
  refine Go.Eng.Fn.weak ?_
  refine Go.Eng.Fn.of_code (gOf []) Try.func38 rfl (Nat.le_of_ble_eq_true rfl) ?_
  conv => whnf
  repeat' (first
    | ((with_reducible refine regx_of ?_ ?_); (· decide +kernel); conv => whnf)
    | ((with_reducible refine growx_pre ?_ ?_); (· exact ⟨_, rfl⟩); conv => whnf)
    | ((with_reducible refine needm_of ?_ ?_); (· first | assumption | exact decide_eq_true (by omega) | exact mkOK_of (by decide) | decide +kernel | (refine decide_eq_true ?_; simp (disch := omega) only [i64w]; omega)); conv => whnf)
    | ((with_reducible refine condm_pos ?_ ?_); (· assumption); conv => whnf)
    | ((with_reducible refine condm_neg ?_ ?_); (· assumption); conv => whnf)
    | ((with_reducible refine forceL_fv (by assumption) ?_); conv => whnf)
    | ((with_reducible refine forceL_rfv (by assumption) ?_); conv => whnf)
    | ((with_reducible refine forceNm_of ?_); conv => whnf)
    | ((with_reducible refine needm_of (fv_lenL (by assumption) (by assumption)) ?_); conv => whnf)
    | ((with_reducible refine optm_var (fv_strL (by assumption) (by assumption)) (fun s hs => ?_)); conv => whnf)
    | ((with_reducible refine forceA_of ?_); conv => whnf)
    | ((with_reducible refine forceL_pl (by assumption) ?_); conv => whnf)
    | ((with_reducible refine forceL_rpl (by assumption) ?_); conv => whnf)
    | ((with_reducible apply optm_of); (· first | exact g0 | exact g1 | exact g2 | exact g3 | exact g4 | exact g5 | exact g6); conv => whnf)
    | fail)
  exact keepOf (v₀ := .t [.a .nilp, .a (.int .i64 2)]) [] [] rfl trivial rfl hK
set_option maxHeartbeats 400000 in
theorem trip21z (i : Int) {K : V → Hp → Prop} (hK : K (.t [.a (.flt .f64 0), .a (.flt .f64 0)]) []) : Go.Eng.Fn Try.prog ro 21 [.a .nilp, .a (.int .i64 i)] [] K := by
  refine Go.Eng.Fn.weak ?_
  refine Go.Eng.Fn.of_code h21 Try.func21 rfl (Nat.le_of_ble_eq_true rfl) ?_
  conv => whnf
  repeat' (first
    | ((with_reducible refine regx_of ?_ ?_); (· decide +kernel); conv => whnf)
    | ((with_reducible refine growx_pre ?_ ?_); (· exact ⟨_, rfl⟩); conv => whnf)
    | ((with_reducible refine needm_of ?_ ?_); (· first | assumption | exact decide_eq_true (by omega) | exact mkOK_of (by decide) | decide +kernel | (refine decide_eq_true ?_; simp (disch := omega) only [i64w]; omega)); conv => whnf)
    | ((with_reducible refine condm_pos ?_ ?_); (· assumption); conv => whnf)
    | ((with_reducible refine condm_neg ?_ ?_); (· assumption); conv => whnf)
    | ((with_reducible refine forceL_fv (by assumption) ?_); conv => whnf)
    | ((with_reducible refine forceL_rfv (by assumption) ?_); conv => whnf)
    | ((with_reducible refine forceNm_of ?_); conv => whnf)
    | ((with_reducible refine needm_of (fv_lenL (by assumption) (by assumption)) ?_); conv => whnf)
    | ((with_reducible refine optm_var (fv_strL (by assumption) (by assumption)) (fun s hs => ?_)); conv => whnf)
    | ((with_reducible refine forceA_of ?_); conv => whnf)
    | ((with_reducible refine forceL_pl (by assumption) ?_); conv => whnf)
    | ((with_reducible refine forceL_rpl (by assumption) ?_); conv => whnf)
    | ((with_reducible apply optm_of); (· first | exact g0 | exact g1 | exact g2 | exact g3 | exact g4 | exact g5 | exact g6); conv => whnf)
    | fail)
  refine Go.Eng.Fn.frame [] (by rfl) (by exact trivial) (by rfl) (of38z i ?_)
  conv => whnf
  repeat' (first
    | ((with_reducible refine regx_of ?_ ?_); (· decide +kernel); conv => whnf)
    | ((with_reducible refine growx_pre ?_ ?_); (· exact ⟨_, rfl⟩); conv => whnf)
    | ((with_reducible refine needm_of ?_ ?_); (· first | assumption | exact decide_eq_true (by omega) | exact mkOK_of (by decide) | decide +kernel | (refine decide_eq_true ?_; simp (disch := omega) only [i64w]; omega)); conv => whnf)
    | ((with_reducible refine condm_pos ?_ ?_); (· assumption); conv => whnf)
    | ((with_reducible refine condm_neg ?_ ?_); (· assumption); conv => whnf)
    | ((with_reducible refine forceL_fv (by assumption) ?_); conv => whnf)
    | ((with_reducible refine forceL_rfv (by assumption) ?_); conv => whnf)
    | ((with_reducible refine forceNm_of ?_); conv => whnf)
    | ((with_reducible refine needm_of (fv_lenL (by assumption) (by assumption)) ?_); conv => whnf)
    | ((with_reducible refine optm_var (fv_strL (by assumption) (by assumption)) (fun s hs => ?_)); conv => whnf)
    | ((with_reducible refine forceA_of ?_); conv => whnf)
    | ((with_reducible refine forceL_pl (by assumption) ?_); conv => whnf)
    | ((with_reducible refine forceL_rpl (by assumption) ?_); conv => whnf)
    | ((with_reducible apply optm_of); (· first | exact g0 | exact g1 | exact g2 | exact g3 | exact g4 | exact g5 | exact g6); conv => whnf)
    | fail)
  exact keepOf (v₀ := .t [.a (.flt .f64 0), .a (.flt .f64 0)]) [] [] rfl trivial rfl hK
set_option maxHeartbeats 400000 in
theorem heard22z (i : Int) (t : Nat) {K : V → Hp → Prop} (hK : K (.a (.int .i64 2)) []) : Go.Eng.Fn Try.prog ro 22 [.a .nilp, .a (.int .i64 i), .a (.flt .f64 t)] [] K := by
  refine Go.Eng.Fn.weak ?_
  refine Go.Eng.Fn.of_code h22 Try.func22 rfl (Nat.le_of_ble_eq_true rfl) ?_
  conv => whnf
  repeat' (first
    | ((with_reducible refine regx_of ?_ ?_); (· decide +kernel); conv => whnf)
    | ((with_reducible refine growx_pre ?_ ?_); (· exact ⟨_, rfl⟩); conv => whnf)
    | ((with_reducible refine needm_of ?_ ?_); (· first | assumption | exact decide_eq_true (by omega) | exact mkOK_of (by decide) | decide +kernel | (refine decide_eq_true ?_; simp (disch := omega) only [i64w]; omega)); conv => whnf)
    | ((with_reducible refine condm_pos ?_ ?_); (· assumption); conv => whnf)
    | ((with_reducible refine condm_neg ?_ ?_); (· assumption); conv => whnf)
    | ((with_reducible refine forceL_fv (by assumption) ?_); conv => whnf)
    | ((with_reducible refine forceL_rfv (by assumption) ?_); conv => whnf)
    | ((with_reducible refine forceNm_of ?_); conv => whnf)
    | ((with_reducible refine needm_of (fv_lenL (by assumption) (by assumption)) ?_); conv => whnf)
    | ((with_reducible refine optm_var (fv_strL (by assumption) (by assumption)) (fun s hs => ?_)); conv => whnf)
    | ((with_reducible refine forceA_of ?_); conv => whnf)
    | ((with_reducible refine forceL_pl (by assumption) ?_); conv => whnf)
    | ((with_reducible refine forceL_rpl (by assumption) ?_); conv => whnf)
    | ((with_reducible apply optm_of); (· first | exact g0 | exact g1 | exact g2 | exact g3 | exact g4 | exact g5 | exact g6); conv => whnf)
    | fail)
  refine Go.Eng.Fn.frame [] (by rfl) (by exact trivial) (by rfl) (of38z i ?_)
  conv => whnf
  repeat' (first
    | ((with_reducible refine regx_of ?_ ?_); (· decide +kernel); conv => whnf)
    | ((with_reducible refine growx_pre ?_ ?_); (· exact ⟨_, rfl⟩); conv => whnf)
    | ((with_reducible refine needm_of ?_ ?_); (· first | assumption | exact decide_eq_true (by omega) | exact mkOK_of (by decide) | decide +kernel | (refine decide_eq_true ?_; simp (disch := omega) only [i64w]; omega)); conv => whnf)
    | ((with_reducible refine condm_pos ?_ ?_); (· assumption); conv => whnf)
    | ((with_reducible refine condm_neg ?_ ?_); (· assumption); conv => whnf)
    | ((with_reducible refine forceL_fv (by assumption) ?_); conv => whnf)
    | ((with_reducible refine forceL_rfv (by assumption) ?_); conv => whnf)
    | ((with_reducible refine forceNm_of ?_); conv => whnf)
    | ((with_reducible refine needm_of (fv_lenL (by assumption) (by assumption)) ?_); conv => whnf)
    | ((with_reducible refine optm_var (fv_strL (by assumption) (by assumption)) (fun s hs => ?_)); conv => whnf)
    | ((with_reducible refine forceA_of ?_); conv => whnf)
    | ((with_reducible refine forceL_pl (by assumption) ?_); conv => whnf)
    | ((with_reducible refine forceL_rpl (by assumption) ?_); conv => whnf)
    | ((with_reducible apply optm_of); (· first | exact g0 | exact g1 | exact g2 | exact g3 | exact g4 | exact g5 | exact g6); conv => whnf)
    | fail)
  exact keepOf (v₀ := .a (.int .i64 2)) [] [] rfl trivial rfl hK
set_option maxHeartbeats 400000 in
theorem failed23z (i : Int) {K : V → Hp → Prop} (hK : K (.a (.int .i64 2)) []) : Go.Eng.Fn Try.prog ro 23 [.a .nilp, .a (.int .i64 i)] [] K := by
  refine Go.Eng.Fn.weak ?_
  refine Go.Eng.Fn.of_code (gOf []) Try.func23 rfl (Nat.le_of_ble_eq_true rfl) ?_
  conv => whnf
  repeat' (first
    | ((with_reducible refine regx_of ?_ ?_); (· decide +kernel); conv => whnf)
    | ((with_reducible refine growx_pre ?_ ?_); (· exact ⟨_, rfl⟩); conv => whnf)
    | ((with_reducible refine needm_of ?_ ?_); (· first | assumption | exact decide_eq_true (by omega) | exact mkOK_of (by decide) | decide +kernel | (refine decide_eq_true ?_; simp (disch := omega) only [i64w]; omega)); conv => whnf)
    | ((with_reducible refine condm_pos ?_ ?_); (· assumption); conv => whnf)
    | ((with_reducible refine condm_neg ?_ ?_); (· assumption); conv => whnf)
    | ((with_reducible refine forceL_fv (by assumption) ?_); conv => whnf)
    | ((with_reducible refine forceL_rfv (by assumption) ?_); conv => whnf)
    | ((with_reducible refine forceNm_of ?_); conv => whnf)
    | ((with_reducible refine needm_of (fv_lenL (by assumption) (by assumption)) ?_); conv => whnf)
    | ((with_reducible refine optm_var (fv_strL (by assumption) (by assumption)) (fun s hs => ?_)); conv => whnf)
    | ((with_reducible refine forceA_of ?_); conv => whnf)
    | ((with_reducible refine forceL_pl (by assumption) ?_); conv => whnf)
    | ((with_reducible refine forceL_rpl (by assumption) ?_); conv => whnf)
    | ((with_reducible apply optm_of); (· first | exact g0 | exact g1 | exact g2 | exact g3 | exact g4 | exact g5 | exact g6); conv => whnf)
    | fail)
  refine Go.Eng.Fn.frame [] (by rfl) (by exact trivial) (by rfl) (of38z i ?_)
  conv => whnf
  repeat' (first
    | ((with_reducible refine regx_of ?_ ?_); (· decide +kernel); conv => whnf)
    | ((with_reducible refine growx_pre ?_ ?_); (· exact ⟨_, rfl⟩); conv => whnf)
    | ((with_reducible refine needm_of ?_ ?_); (· first | assumption | exact decide_eq_true (by omega) | exact mkOK_of (by decide) | decide +kernel | (refine decide_eq_true ?_; simp (disch := omega) only [i64w]; omega)); conv => whnf)
    | ((with_reducible refine condm_pos ?_ ?_); (· assumption); conv => whnf)
    | ((with_reducible refine condm_neg ?_ ?_); (· assumption); conv => whnf)
    | ((with_reducible refine forceL_fv (by assumption) ?_); conv => whnf)
    | ((with_reducible refine forceL_rfv (by assumption) ?_); conv => whnf)
    | ((with_reducible refine forceNm_of ?_); conv => whnf)
    | ((with_reducible refine needm_of (fv_lenL (by assumption) (by assumption)) ?_); conv => whnf)
    | ((with_reducible refine optm_var (fv_strL (by assumption) (by assumption)) (fun s hs => ?_)); conv => whnf)
    | ((with_reducible refine forceA_of ?_); conv => whnf)
    | ((with_reducible refine forceL_pl (by assumption) ?_); conv => whnf)
    | ((with_reducible refine forceL_rpl (by assumption) ?_); conv => whnf)
    | ((with_reducible apply optm_of); (· first | exact g0 | exact g1 | exact g2 | exact g3 | exact g4 | exact g5 | exact g6); conv => whnf)
    | fail)
  exact keepOf (v₀ := .a (.int .i64 2)) [] [] rfl trivial rfl hK
set_option maxHeartbeats 400000 in
theorem ended25z (i : Int) (t : Nat) (d ks : Int) {K : V → Hp → Prop} (hK : K (.a (.int .i64 2)) []) : Go.Eng.Fn Try.prog ro 25 [.a .nilp, .a (.int .i64 i), .a (.flt .f64 t), .a (.int .i64 d), .a (.int .i64 ks)] [] K := by
  refine Go.Eng.Fn.weak ?_
  refine Go.Eng.Fn.of_code (gOf []) Try.func25 rfl (Nat.le_of_ble_eq_true rfl) ?_
  conv => whnf
  repeat' (first
    | ((with_reducible refine regx_of ?_ ?_); (· decide +kernel); conv => whnf)
    | ((with_reducible refine growx_pre ?_ ?_); (· exact ⟨_, rfl⟩); conv => whnf)
    | ((with_reducible refine needm_of ?_ ?_); (· first | assumption | exact decide_eq_true (by omega) | exact mkOK_of (by decide) | decide +kernel | (refine decide_eq_true ?_; simp (disch := omega) only [i64w]; omega)); conv => whnf)
    | ((with_reducible refine condm_pos ?_ ?_); (· assumption); conv => whnf)
    | ((with_reducible refine condm_neg ?_ ?_); (· assumption); conv => whnf)
    | ((with_reducible refine forceL_fv (by assumption) ?_); conv => whnf)
    | ((with_reducible refine forceL_rfv (by assumption) ?_); conv => whnf)
    | ((with_reducible refine forceNm_of ?_); conv => whnf)
    | ((with_reducible refine needm_of (fv_lenL (by assumption) (by assumption)) ?_); conv => whnf)
    | ((with_reducible refine optm_var (fv_strL (by assumption) (by assumption)) (fun s hs => ?_)); conv => whnf)
    | ((with_reducible refine forceA_of ?_); conv => whnf)
    | ((with_reducible refine forceL_pl (by assumption) ?_); conv => whnf)
    | ((with_reducible refine forceL_rpl (by assumption) ?_); conv => whnf)
    | ((with_reducible apply optm_of); (· first | exact g0 | exact g1 | exact g2 | exact g3 | exact g4 | exact g5 | exact g6); conv => whnf)
    | fail)
  refine Go.Eng.Fn.frame [] (by rfl) (by exact trivial) (by rfl) (of38z i ?_)
  conv => whnf
  repeat' (first
    | ((with_reducible refine regx_of ?_ ?_); (· decide +kernel); conv => whnf)
    | ((with_reducible refine growx_pre ?_ ?_); (· exact ⟨_, rfl⟩); conv => whnf)
    | ((with_reducible refine needm_of ?_ ?_); (· first | assumption | exact decide_eq_true (by omega) | exact mkOK_of (by decide) | decide +kernel | (refine decide_eq_true ?_; simp (disch := omega) only [i64w]; omega)); conv => whnf)
    | ((with_reducible refine condm_pos ?_ ?_); (· assumption); conv => whnf)
    | ((with_reducible refine condm_neg ?_ ?_); (· assumption); conv => whnf)
    | ((with_reducible refine forceL_fv (by assumption) ?_); conv => whnf)
    | ((with_reducible refine forceL_rfv (by assumption) ?_); conv => whnf)
    | ((with_reducible refine forceNm_of ?_); conv => whnf)
    | ((with_reducible refine needm_of (fv_lenL (by assumption) (by assumption)) ?_); conv => whnf)
    | ((with_reducible refine optm_var (fv_strL (by assumption) (by assumption)) (fun s hs => ?_)); conv => whnf)
    | ((with_reducible refine forceA_of ?_); conv => whnf)
    | ((with_reducible refine forceL_pl (by assumption) ?_); conv => whnf)
    | ((with_reducible refine forceL_rpl (by assumption) ?_); conv => whnf)
    | ((with_reducible apply optm_of); (· first | exact g0 | exact g1 | exact g2 | exact g3 | exact g4 | exact g5 | exact g6); conv => whnf)
    | fail)
  exact keepOf (v₀ := .a (.int .i64 2)) [] [] rfl trivial rfl hK
set_option maxHeartbeats 400000 in
theorem wait24z (i : Int) {K : V → Hp → Prop} (hK : K (.a (.int .i64 0)) []) : Go.Eng.Fn Try.prog ro 24 [.a .nilp, .a (.int .i64 i)] [] K := by
  refine Go.Eng.Fn.weak ?_
  refine Go.Eng.Fn.of_code h24 Try.func24 rfl (Nat.le_of_ble_eq_true rfl) ?_
  conv => whnf
  repeat' (first
    | ((with_reducible refine regx_of ?_ ?_); (· decide +kernel); conv => whnf)
    | ((with_reducible refine growx_pre ?_ ?_); (· exact ⟨_, rfl⟩); conv => whnf)
    | ((with_reducible refine needm_of ?_ ?_); (· first | assumption | exact decide_eq_true (by omega) | exact mkOK_of (by decide) | decide +kernel | (refine decide_eq_true ?_; simp (disch := omega) only [i64w]; omega)); conv => whnf)
    | ((with_reducible refine condm_pos ?_ ?_); (· assumption); conv => whnf)
    | ((with_reducible refine condm_neg ?_ ?_); (· assumption); conv => whnf)
    | ((with_reducible refine forceL_fv (by assumption) ?_); conv => whnf)
    | ((with_reducible refine forceL_rfv (by assumption) ?_); conv => whnf)
    | ((with_reducible refine forceNm_of ?_); conv => whnf)
    | ((with_reducible refine needm_of (fv_lenL (by assumption) (by assumption)) ?_); conv => whnf)
    | ((with_reducible refine optm_var (fv_strL (by assumption) (by assumption)) (fun s hs => ?_)); conv => whnf)
    | ((with_reducible refine forceA_of ?_); conv => whnf)
    | ((with_reducible refine forceL_pl (by assumption) ?_); conv => whnf)
    | ((with_reducible refine forceL_rpl (by assumption) ?_); conv => whnf)
    | ((with_reducible apply optm_of); (· first | exact g0 | exact g1 | exact g2 | exact g3 | exact g4 | exact g5 | exact g6); conv => whnf)
    | fail)
  refine Go.Eng.Fn.frame [] (by rfl) (by exact trivial) (by rfl) (of38z i ?_)
  conv => whnf
  repeat' (first
    | ((with_reducible refine regx_of ?_ ?_); (· decide +kernel); conv => whnf)
    | ((with_reducible refine growx_pre ?_ ?_); (· exact ⟨_, rfl⟩); conv => whnf)
    | ((with_reducible refine needm_of ?_ ?_); (· first | assumption | exact decide_eq_true (by omega) | exact mkOK_of (by decide) | decide +kernel | (refine decide_eq_true ?_; simp (disch := omega) only [i64w]; omega)); conv => whnf)
    | ((with_reducible refine condm_pos ?_ ?_); (· assumption); conv => whnf)
    | ((with_reducible refine condm_neg ?_ ?_); (· assumption); conv => whnf)
    | ((with_reducible refine forceL_fv (by assumption) ?_); conv => whnf)
    | ((with_reducible refine forceL_rfv (by assumption) ?_); conv => whnf)
    | ((with_reducible refine forceNm_of ?_); conv => whnf)
    | ((with_reducible refine needm_of (fv_lenL (by assumption) (by assumption)) ?_); conv => whnf)
    | ((with_reducible refine optm_var (fv_strL (by assumption) (by assumption)) (fun s hs => ?_)); conv => whnf)
    | ((with_reducible refine forceA_of ?_); conv => whnf)
    | ((with_reducible refine forceL_pl (by assumption) ?_); conv => whnf)
    | ((with_reducible refine forceL_rpl (by assumption) ?_); conv => whnf)
    | ((with_reducible apply optm_of); (· first | exact g0 | exact g1 | exact g2 | exact g3 | exact g4 | exact g5 | exact g6); conv => whnf)
    | fail)
  exact keepOf (v₀ := .a (.int .i64 0)) [] [] rfl trivial rfl hK
set_option maxHeartbeats 400000 in
theorem score27z (i : Int) (t : Nat) {K : V → Hp → Prop} (hK : ∀ s, isNan s = true → K (.a (.flt .f64 s)) []) : Go.Eng.Fn Try.prog ro 27 [.a .nilp, .a (.int .i64 i), .a (.flt .f64 t)] [] K := by
  refine Go.Eng.Fn.weak ?_
  refine Go.Eng.Fn.of_code h27' Try.func27 rfl (Nat.le_of_ble_eq_true rfl) ?_
  conv => whnf
  repeat' (first
    | ((with_reducible refine regx_of ?_ ?_); (· decide +kernel); conv => whnf)
    | ((with_reducible refine growx_pre ?_ ?_); (· exact ⟨_, rfl⟩); conv => whnf)
    | ((with_reducible refine needm_of ?_ ?_); (· first | assumption | exact decide_eq_true (by omega) | exact mkOK_of (by decide) | decide +kernel | (refine decide_eq_true ?_; simp (disch := omega) only [i64w]; omega)); conv => whnf)
    | ((with_reducible refine condm_pos ?_ ?_); (· assumption); conv => whnf)
    | ((with_reducible refine condm_neg ?_ ?_); (· assumption); conv => whnf)
    | ((with_reducible refine forceL_fv (by assumption) ?_); conv => whnf)
    | ((with_reducible refine forceL_rfv (by assumption) ?_); conv => whnf)
    | ((with_reducible refine forceNm_of ?_); conv => whnf)
    | ((with_reducible refine needm_of (fv_lenL (by assumption) (by assumption)) ?_); conv => whnf)
    | ((with_reducible refine optm_var (fv_strL (by assumption) (by assumption)) (fun s hs => ?_)); conv => whnf)
    | ((with_reducible refine forceA_of ?_); conv => whnf)
    | ((with_reducible refine forceL_pl (by assumption) ?_); conv => whnf)
    | ((with_reducible refine forceL_rpl (by assumption) ?_); conv => whnf)
    | ((with_reducible apply optm_of); (· first | exact g0 | exact g1 | exact g2 | exact g3 | exact g4 | exact g5 | exact g6); conv => whnf)
    | fail)
  refine Go.Eng.Fn.frame [] (by rfl) (by exact trivial) (by rfl) (of38z i ?_)
  conv => whnf
  repeat' (first
    | ((with_reducible refine regx_of ?_ ?_); (· decide +kernel); conv => whnf)
    | ((with_reducible refine growx_pre ?_ ?_); (· exact ⟨_, rfl⟩); conv => whnf)
    | ((with_reducible refine needm_of ?_ ?_); (· first | assumption | exact decide_eq_true (by omega) | exact mkOK_of (by decide) | decide +kernel | (refine decide_eq_true ?_; simp (disch := omega) only [i64w]; omega)); conv => whnf)
    | ((with_reducible refine condm_pos ?_ ?_); (· assumption); conv => whnf)
    | ((with_reducible refine condm_neg ?_ ?_); (· assumption); conv => whnf)
    | ((with_reducible refine forceL_fv (by assumption) ?_); conv => whnf)
    | ((with_reducible refine forceL_rfv (by assumption) ?_); conv => whnf)
    | ((with_reducible refine forceNm_of ?_); conv => whnf)
    | ((with_reducible refine needm_of (fv_lenL (by assumption) (by assumption)) ?_); conv => whnf)
    | ((with_reducible refine optm_var (fv_strL (by assumption) (by assumption)) (fun s hs => ?_)); conv => whnf)
    | ((with_reducible refine forceA_of ?_); conv => whnf)
    | ((with_reducible refine forceL_pl (by assumption) ?_); conv => whnf)
    | ((with_reducible refine forceL_rpl (by assumption) ?_); conv => whnf)
    | ((with_reducible apply optm_of); (· first | exact g0 | exact g1 | exact g2 | exact g3 | exact g4 | exact g5 | exact g6); conv => whnf)
    | fail)
  refine Go.Eng.Fn.frame [] (by rfl) (by exact trivial) (by rfl) (nan35 ?_)
  conv => whnf
  repeat' (first
    | ((with_reducible refine regx_of ?_ ?_); (· decide +kernel); conv => whnf)
    | ((with_reducible refine growx_pre ?_ ?_); (· exact ⟨_, rfl⟩); conv => whnf)
    | ((with_reducible refine needm_of ?_ ?_); (· first | assumption | exact decide_eq_true (by omega) | exact mkOK_of (by decide) | decide +kernel | (refine decide_eq_true ?_; simp (disch := omega) only [i64w]; omega)); conv => whnf)
    | ((with_reducible refine condm_pos ?_ ?_); (· assumption); conv => whnf)
    | ((with_reducible refine condm_neg ?_ ?_); (· assumption); conv => whnf)
    | ((with_reducible refine forceL_fv (by assumption) ?_); conv => whnf)
    | ((with_reducible refine forceL_rfv (by assumption) ?_); conv => whnf)
    | ((with_reducible refine forceNm_of ?_); conv => whnf)
    | ((with_reducible refine needm_of (fv_lenL (by assumption) (by assumption)) ?_); conv => whnf)
    | ((with_reducible refine optm_var (fv_strL (by assumption) (by assumption)) (fun s hs => ?_)); conv => whnf)
    | ((with_reducible refine forceA_of ?_); conv => whnf)
    | ((with_reducible refine forceL_pl (by assumption) ?_); conv => whnf)
    | ((with_reducible refine forceL_rpl (by assumption) ?_); conv => whnf)
    | ((with_reducible apply optm_of); (· first | exact g0 | exact g1 | exact g2 | exact g3 | exact g4 | exact g5 | exact g6); conv => whnf)
    | fail)
  exact keepOf (v₀ := .a (.flt .f64 9221120237041090561)) [] [] rfl trivial rfl (hK _ (by unfold isNan; decide))
set_option maxHeartbeats 400000 in
theorem order26z (t : Nat) {K : V → Hp → Prop} (hK : K (.a .nils) []) : Go.Eng.Fn Try.prog ro 26 [.a .nilp, .a (.flt .f64 t)] [] K := by
  refine Go.Eng.Fn.weak ?_
  refine Go.Eng.Fn.of_code (gOf [(13, [], [])]) Try.func26 rfl (Nat.le_of_ble_eq_true rfl) ?_
  obtain ⟨z1, hz1⟩ : ∃ z : List A, z = [.nilp] := ⟨_, rfl⟩
  obtain ⟨z2, hz2⟩ : ∃ z : List A, z = [.flt .f64 t] := ⟨_, rfl⟩
  have y1 : z1[0]? = some .nilp := by rw [hz1]; rfl
  have hzp : Pl z1 := by rw [hz1]; exact ⟨fun _ => rfl, fun _ => rfl⟩
  have hzq : Pl z2 := by rw [hz2]; exact ⟨fun _ => rfl, fun _ => rfl⟩
  simp only [frm0, Nat.zero_add]
  conv => whnf
  repeat' (first
    | rw [← hz1]
    | rw [← hz2]
    | ((with_reducible refine regx_of ?_ ?_); (· decide +kernel); conv => whnf)
    | ((with_reducible refine growx_pre ?_ ?_); (· exact ⟨_, rfl⟩); conv => whnf)
    | ((with_reducible refine needm_of ?_ ?_); (· first | assumption | exact decide_eq_true (by omega) | exact mkOK_of (by decide) | decide +kernel | (refine decide_eq_true ?_; simp (disch := omega) only [i64w]; omega)); conv => whnf)
    | ((with_reducible refine condm_pos ?_ ?_); (· assumption); conv => whnf)
    | ((with_reducible refine condm_neg ?_ ?_); (· assumption); conv => whnf)
    | ((with_reducible refine forceL_fv (by assumption) ?_); conv => whnf)
    | ((with_reducible refine forceL_rfv (by assumption) ?_); conv => whnf)
    | ((with_reducible refine forceNm_of ?_); conv => whnf)
    | ((with_reducible refine needm_of (fv_lenL (by assumption) (by assumption)) ?_); conv => whnf)
    | ((with_reducible refine optm_var (fv_strL (by assumption) (by assumption)) (fun s hs => ?_)); conv => whnf)
    | ((with_reducible refine forceA_of ?_); conv => whnf)
    | ((with_reducible refine forceL_pl (by assumption) ?_); conv => whnf)
    | ((with_reducible apply optm_of); (· exact y1); conv => whnf)
    | fail)
  exact keepOf (v₀ := .a .nils) [] [] rfl trivial rfl hK
set_option maxHeartbeats 400000 in
theorem names8 : Go.Eng.Fn Try.prog ro 8 [] [] (fun v _ => v = .a (.bool true)) := by
  have hs0 : same 0 0 = true := by unfold same isNan; decide
  refine Go.Eng.Fn.of_code (gOf []) Try.func8 rfl (Nat.le_of_ble_eq_true rfl) ?_
  conv => whnf
  repeat' (first
    | ((with_reducible refine regx_of ?_ ?_); (· decide +kernel); conv => whnf)
    | ((with_reducible refine growx_pre ?_ ?_); (· exact ⟨_, rfl⟩); conv => whnf)
    | ((with_reducible refine needm_of ?_ ?_); (· first | assumption | exact decide_eq_true (by omega) | exact mkOK_of (by decide) | decide +kernel | (refine decide_eq_true ?_; simp (disch := omega) only [i64w]; omega)); conv => whnf)
    | ((with_reducible refine condm_pos ?_ ?_); (· assumption); conv => whnf)
    | ((with_reducible refine condm_neg ?_ ?_); (· assumption); conv => whnf)
    | ((with_reducible refine forceL_fv (by assumption) ?_); conv => whnf)
    | ((with_reducible refine forceL_rfv (by assumption) ?_); conv => whnf)
    | ((with_reducible refine forceNm_of ?_); conv => whnf)
    | ((with_reducible refine needm_of (fv_lenL (by assumption) (by assumption)) ?_); conv => whnf)
    | ((with_reducible refine optm_var (fv_strL (by assumption) (by assumption)) (fun s hs => ?_)); conv => whnf)
    | ((with_reducible refine forceA_of ?_); conv => whnf)
    | ((with_reducible refine forceL_pl (by assumption) ?_); conv => whnf)
    | ((with_reducible refine forceL_rpl (by assumption) ?_); conv => whnf)
    | ((with_reducible apply optm_of); (· first | exact g0 | exact g1 | exact g2 | exact g3 | exact g4 | exact g5 | exact g6); conv => whnf)
    | fail)
  refine Go.Eng.Fn.frame [] (by rfl) (by exact trivial) (by rfl) (trip21z 1 ?_)
  conv => whnf
  repeat' (first
    | ((with_reducible refine regx_of ?_ ?_); (· decide +kernel); conv => whnf)
    | ((with_reducible refine growx_pre ?_ ?_); (· exact ⟨_, rfl⟩); conv => whnf)
    | ((with_reducible refine needm_of ?_ ?_); (· first | assumption | exact decide_eq_true (by omega) | exact mkOK_of (by decide) | decide +kernel | (refine decide_eq_true ?_; simp (disch := omega) only [i64w]; omega)); conv => whnf)
    | ((with_reducible refine condm_pos ?_ ?_); (· assumption); conv => whnf)
    | ((with_reducible refine condm_neg ?_ ?_); (· assumption); conv => whnf)
    | ((with_reducible refine forceL_fv (by assumption) ?_); conv => whnf)
    | ((with_reducible refine forceL_rfv (by assumption) ?_); conv => whnf)
    | ((with_reducible refine forceNm_of ?_); conv => whnf)
    | ((with_reducible refine needm_of (fv_lenL (by assumption) (by assumption)) ?_); conv => whnf)
    | ((with_reducible refine optm_var (fv_strL (by assumption) (by assumption)) (fun s hs => ?_)); conv => whnf)
    | ((with_reducible refine forceA_of ?_); conv => whnf)
    | ((with_reducible refine forceL_pl (by assumption) ?_); conv => whnf)
    | ((with_reducible refine forceL_rpl (by assumption) ?_); conv => whnf)
    | ((with_reducible apply optm_of); (· first | exact g0 | exact g1 | exact g2 | exact g3 | exact g4 | exact g5 | exact g6); conv => whnf)
    | fail)
  refine Go.Eng.Fn.frame [] (by rfl) (by exact trivial) (by rfl) (score27z 1 0 (fun s hs => ?_))
  have hnn : (!fEqK .f64 s s) = true := by rw [fEq_self, hs]; rfl
  conv => whnf
  repeat' (first
    | ((with_reducible refine regx_of ?_ ?_); (· decide +kernel); conv => whnf)
    | ((with_reducible refine growx_pre ?_ ?_); (· exact ⟨_, rfl⟩); conv => whnf)
    | ((with_reducible refine needm_of ?_ ?_); (· first | assumption | exact decide_eq_true (by omega) | exact mkOK_of (by decide) | decide +kernel | (refine decide_eq_true ?_; simp (disch := omega) only [i64w]; omega)); conv => whnf)
    | ((with_reducible refine condm_pos ?_ ?_); (· assumption); conv => whnf)
    | ((with_reducible refine condm_neg ?_ ?_); (· assumption); conv => whnf)
    | ((with_reducible refine forceL_fv (by assumption) ?_); conv => whnf)
    | ((with_reducible refine forceL_rfv (by assumption) ?_); conv => whnf)
    | ((with_reducible refine forceNm_of ?_); conv => whnf)
    | ((with_reducible refine needm_of (fv_lenL (by assumption) (by assumption)) ?_); conv => whnf)
    | ((with_reducible refine optm_var (fv_strL (by assumption) (by assumption)) (fun s hs => ?_)); conv => whnf)
    | ((with_reducible refine forceA_of ?_); conv => whnf)
    | ((with_reducible refine forceL_pl (by assumption) ?_); conv => whnf)
    | ((with_reducible refine forceL_rpl (by assumption) ?_); conv => whnf)
    | ((with_reducible apply optm_of); (· first | exact g0 | exact g1 | exact g2 | exact g3 | exact g4 | exact g5 | exact g6); conv => whnf)
    | fail)
  refine Go.Eng.Fn.frame [] (by rfl) (by exact trivial) (by rfl) (heard22z 1 13830554455654793216 ?_)
  conv => whnf
  repeat' (first
    | ((with_reducible refine regx_of ?_ ?_); (· decide +kernel); conv => whnf)
    | ((with_reducible refine growx_pre ?_ ?_); (· exact ⟨_, rfl⟩); conv => whnf)
    | ((with_reducible refine needm_of ?_ ?_); (· first | assumption | exact decide_eq_true (by omega) | exact mkOK_of (by decide) | decide +kernel | (refine decide_eq_true ?_; simp (disch := omega) only [i64w]; omega)); conv => whnf)
    | ((with_reducible refine condm_pos ?_ ?_); (· assumption); conv => whnf)
    | ((with_reducible refine condm_neg ?_ ?_); (· assumption); conv => whnf)
    | ((with_reducible refine forceL_fv (by assumption) ?_); conv => whnf)
    | ((with_reducible refine forceL_rfv (by assumption) ?_); conv => whnf)
    | ((with_reducible refine forceNm_of ?_); conv => whnf)
    | ((with_reducible refine needm_of (fv_lenL (by assumption) (by assumption)) ?_); conv => whnf)
    | ((with_reducible refine optm_var (fv_strL (by assumption) (by assumption)) (fun s hs => ?_)); conv => whnf)
    | ((with_reducible refine forceA_of ?_); conv => whnf)
    | ((with_reducible refine forceL_pl (by assumption) ?_); conv => whnf)
    | ((with_reducible refine forceL_rpl (by assumption) ?_); conv => whnf)
    | ((with_reducible apply optm_of); (· first | exact g0 | exact g1 | exact g2 | exact g3 | exact g4 | exact g5 | exact g6); conv => whnf)
    | fail)
  refine Go.Eng.Fn.frame [] (by rfl) (by exact trivial) (by rfl) (failed23z 9 ?_)
  conv => whnf
  repeat' (first
    | ((with_reducible refine regx_of ?_ ?_); (· decide +kernel); conv => whnf)
    | ((with_reducible refine growx_pre ?_ ?_); (· exact ⟨_, rfl⟩); conv => whnf)
    | ((with_reducible refine needm_of ?_ ?_); (· first | assumption | exact decide_eq_true (by omega) | exact mkOK_of (by decide) | decide +kernel | (refine decide_eq_true ?_; simp (disch := omega) only [i64w]; omega)); conv => whnf)
    | ((with_reducible refine condm_pos ?_ ?_); (· assumption); conv => whnf)
    | ((with_reducible refine condm_neg ?_ ?_); (· assumption); conv => whnf)
    | ((with_reducible refine forceL_fv (by assumption) ?_); conv => whnf)
    | ((with_reducible refine forceL_rfv (by assumption) ?_); conv => whnf)
    | ((with_reducible refine forceNm_of ?_); conv => whnf)
    | ((with_reducible refine needm_of (fv_lenL (by assumption) (by assumption)) ?_); conv => whnf)
    | ((with_reducible refine optm_var (fv_strL (by assumption) (by assumption)) (fun s hs => ?_)); conv => whnf)
    | ((with_reducible refine forceA_of ?_); conv => whnf)
    | ((with_reducible refine forceL_pl (by assumption) ?_); conv => whnf)
    | ((with_reducible refine forceL_rpl (by assumption) ?_); conv => whnf)
    | ((with_reducible apply optm_of); (· first | exact g0 | exact g1 | exact g2 | exact g3 | exact g4 | exact g5 | exact g6); conv => whnf)
    | fail)
  refine Go.Eng.Fn.frame [] (by rfl) (by exact trivial) (by rfl) (ended25z 1 0 0 0 ?_)
  conv => whnf
  repeat' (first
    | ((with_reducible refine regx_of ?_ ?_); (· decide +kernel); conv => whnf)
    | ((with_reducible refine growx_pre ?_ ?_); (· exact ⟨_, rfl⟩); conv => whnf)
    | ((with_reducible refine needm_of ?_ ?_); (· first | assumption | exact decide_eq_true (by omega) | exact mkOK_of (by decide) | decide +kernel | (refine decide_eq_true ?_; simp (disch := omega) only [i64w]; omega)); conv => whnf)
    | ((with_reducible refine condm_pos ?_ ?_); (· assumption); conv => whnf)
    | ((with_reducible refine condm_neg ?_ ?_); (· assumption); conv => whnf)
    | ((with_reducible refine forceL_fv (by assumption) ?_); conv => whnf)
    | ((with_reducible refine forceL_rfv (by assumption) ?_); conv => whnf)
    | ((with_reducible refine forceNm_of ?_); conv => whnf)
    | ((with_reducible refine needm_of (fv_lenL (by assumption) (by assumption)) ?_); conv => whnf)
    | ((with_reducible refine optm_var (fv_strL (by assumption) (by assumption)) (fun s hs => ?_)); conv => whnf)
    | ((with_reducible refine forceA_of ?_); conv => whnf)
    | ((with_reducible refine forceL_pl (by assumption) ?_); conv => whnf)
    | ((with_reducible refine forceL_rpl (by assumption) ?_); conv => whnf)
    | ((with_reducible apply optm_of); (· first | exact g0 | exact g1 | exact g2 | exact g3 | exact g4 | exact g5 | exact g6); conv => whnf)
    | fail)
  refine Go.Eng.Fn.frame [] (by rfl) (by exact trivial) (by rfl) (same15 0 0 ?_)
  rw [hs0]
  conv => whnf
  repeat' (first
    | ((with_reducible refine regx_of ?_ ?_); (· decide +kernel); conv => whnf)
    | ((with_reducible refine growx_pre ?_ ?_); (· exact ⟨_, rfl⟩); conv => whnf)
    | ((with_reducible refine needm_of ?_ ?_); (· first | assumption | exact decide_eq_true (by omega) | exact mkOK_of (by decide) | decide +kernel | (refine decide_eq_true ?_; simp (disch := omega) only [i64w]; omega)); conv => whnf)
    | ((with_reducible refine condm_pos ?_ ?_); (· assumption); conv => whnf)
    | ((with_reducible refine condm_neg ?_ ?_); (· assumption); conv => whnf)
    | ((with_reducible refine forceL_fv (by assumption) ?_); conv => whnf)
    | ((with_reducible refine forceL_rfv (by assumption) ?_); conv => whnf)
    | ((with_reducible refine forceNm_of ?_); conv => whnf)
    | ((with_reducible refine needm_of (fv_lenL (by assumption) (by assumption)) ?_); conv => whnf)
    | ((with_reducible refine optm_var (fv_strL (by assumption) (by assumption)) (fun s hs => ?_)); conv => whnf)
    | ((with_reducible refine forceA_of ?_); conv => whnf)
    | ((with_reducible refine forceL_pl (by assumption) ?_); conv => whnf)
    | ((with_reducible refine forceL_rpl (by assumption) ?_); conv => whnf)
    | ((with_reducible apply optm_of); (· first | exact g0 | exact g1 | exact g2 | exact g3 | exact g4 | exact g5 | exact g6); conv => whnf)
    | fail)
  refine Go.Eng.Fn.frame [] (by rfl) (by exact trivial) (by rfl) (same15 0 0 ?_)
  rw [hs0]
  conv => whnf
  repeat' (first
    | ((with_reducible refine regx_of ?_ ?_); (· decide +kernel); conv => whnf)
    | ((with_reducible refine growx_pre ?_ ?_); (· exact ⟨_, rfl⟩); conv => whnf)
    | ((with_reducible refine needm_of ?_ ?_); (· first | assumption | exact decide_eq_true (by omega) | exact mkOK_of (by decide) | decide +kernel | (refine decide_eq_true ?_; simp (disch := omega) only [i64w]; omega)); conv => whnf)
    | ((with_reducible refine condm_pos ?_ ?_); (· assumption); conv => whnf)
    | ((with_reducible refine condm_neg ?_ ?_); (· assumption); conv => whnf)
    | ((with_reducible refine forceL_fv (by assumption) ?_); conv => whnf)
    | ((with_reducible refine forceL_rfv (by assumption) ?_); conv => whnf)
    | ((with_reducible refine forceNm_of ?_); conv => whnf)
    | ((with_reducible refine needm_of (fv_lenL (by assumption) (by assumption)) ?_); conv => whnf)
    | ((with_reducible refine optm_var (fv_strL (by assumption) (by assumption)) (fun s hs => ?_)); conv => whnf)
    | ((with_reducible refine forceA_of ?_); conv => whnf)
    | ((with_reducible refine forceL_pl (by assumption) ?_); conv => whnf)
    | ((with_reducible refine forceL_rpl (by assumption) ?_); conv => whnf)
    | ((with_reducible apply optm_of); (· first | exact g0 | exact g1 | exact g2 | exact g3 | exact g4 | exact g5 | exact g6); conv => whnf)
    | fail)
  refine Go.Eng.Fn.frame [] (by rfl) (by exact trivial) (by rfl) (wait24z 1 ?_)
  conv => whnf
  repeat' (first
    | ((with_reducible refine regx_of ?_ ?_); (· decide +kernel); conv => whnf)
    | ((with_reducible refine growx_pre ?_ ?_); (· exact ⟨_, rfl⟩); conv => whnf)
    | ((with_reducible refine needm_of ?_ ?_); (· first | assumption | exact decide_eq_true (by omega) | exact mkOK_of (by decide) | decide +kernel | (refine decide_eq_true ?_; simp (disch := omega) only [i64w]; omega)); conv => whnf)
    | ((with_reducible refine condm_pos ?_ ?_); (· assumption); conv => whnf)
    | ((with_reducible refine condm_neg ?_ ?_); (· assumption); conv => whnf)
    | ((with_reducible refine forceL_fv (by assumption) ?_); conv => whnf)
    | ((with_reducible refine forceL_rfv (by assumption) ?_); conv => whnf)
    | ((with_reducible refine forceNm_of ?_); conv => whnf)
    | ((with_reducible refine needm_of (fv_lenL (by assumption) (by assumption)) ?_); conv => whnf)
    | ((with_reducible refine optm_var (fv_strL (by assumption) (by assumption)) (fun s hs => ?_)); conv => whnf)
    | ((with_reducible refine forceA_of ?_); conv => whnf)
    | ((with_reducible refine forceL_pl (by assumption) ?_); conv => whnf)
    | ((with_reducible refine forceL_rpl (by assumption) ?_); conv => whnf)
    | ((with_reducible apply optm_of); (· first | exact g0 | exact g1 | exact g2 | exact g3 | exact g4 | exact g5 | exact g6); conv => whnf)
    | fail)
  refine Go.Eng.Fn.frame [] (by rfl) (by exact trivial) (by rfl) (order26z 0 ?_)
  conv => whnf
  repeat' (first
    | ((with_reducible refine regx_of ?_ ?_); (· decide +kernel); conv => whnf)
    | ((with_reducible refine growx_pre ?_ ?_); (· exact ⟨_, rfl⟩); conv => whnf)
    | ((with_reducible refine needm_of ?_ ?_); (· first | assumption | exact decide_eq_true (by omega) | exact mkOK_of (by decide) | decide +kernel | (refine decide_eq_true ?_; simp (disch := omega) only [i64w]; omega)); conv => whnf)
    | ((with_reducible refine condm_pos ?_ ?_); (· assumption); conv => whnf)
    | ((with_reducible refine condm_neg ?_ ?_); (· assumption); conv => whnf)
    | ((with_reducible refine forceL_fv (by assumption) ?_); conv => whnf)
    | ((with_reducible refine forceL_rfv (by assumption) ?_); conv => whnf)
    | ((with_reducible refine forceNm_of ?_); conv => whnf)
    | ((with_reducible refine needm_of (fv_lenL (by assumption) (by assumption)) ?_); conv => whnf)
    | ((with_reducible refine optm_var (fv_strL (by assumption) (by assumption)) (fun s hs => ?_)); conv => whnf)
    | ((with_reducible refine forceA_of ?_); conv => whnf)
    | ((with_reducible refine forceL_pl (by assumption) ?_); conv => whnf)
    | ((with_reducible refine forceL_rpl (by assumption) ?_); conv => whnf)
    | ((with_reducible apply optm_of); (· first | exact g0 | exact g1 | exact g2 | exact g3 | exact g4 | exact g5 | exact g6); conv => whnf)
    | fail)
end
end Go.Proofs.Ytmnimmhpclhmfaa.PC
