import Derived.Test.YtimddbgnaeeggaaRM
import Derived.Test.YtimddbgnaeeggaaRZ
namespace Go.Proofs.Ytimddbgnaeeggaa.KD
open Go.Eng
set_option maxRecDepth 100000
section
variable {ro : Addr → A → Prop}
set_option maxHeartbeats 1000000 in
theorem stepO (L : List UInt8) (hL : ¬ IsT L) (r b : Int) {K : V → Hp → Prop} (hK : K (.t [.a (.str ByteArray.empty), .a (.int .i64 120)]) []) :
    Go.Eng.Fn Try.prog ro 13 [.a (.str (bs L)), .a (.int .u8 r), .a (.int .i16 b)] [] K := by
  refine Go.Eng.Fn.weak ?_
  refine Go.Eng.Fn.of_code (gOf []) Try.func13 rfl (Nat.le_of_ble_eq_true rfl) ?_
  have k := @kindAll ro L
  generalize bs L = s at k ⊢
  conv => whnf
  repeat' ((first | ((with_reducible refine regx_of ?_ ?_); (· decide +kernel)) | ((with_reducible refine growx_pre ?_ ?_); (· exact ⟨_, rfl⟩)) | (with_reducible first | refine condm_b ‹_› ?_ | refine needm_of ‹_› ?_ | refine forceL_fv ‹_› ?_ | refine forceL_rfv ‹_› ?_ | refine forceNm_of ?_ | refine forceA_of ?_) | ((with_reducible refine needm_of ?_ ?_); (· first | assumption | exact decide_eq_true (by omega) | exact mkOK_of (by decide) | decide +kernel | (refine decide_eq_true ?_; simp (disch := omega) only [i64w]; omega))) | ((with_reducible refine condm_b ?_ ?_); (· assumption)) | (with_reducible first | refine needm_of (fv_lenL ‹_› ‹_›) ?_ | refine optm_var (fv_strL ‹_› ‹_›) (fun s hs => ?_) | refine forceL_pl ‹_› ?_ | refine forceL_rpl ‹_› ?_) | ((with_reducible refine condm_pos ?_ ?_); (· rfl)) | ((with_reducible refine condm_neg ?_ ?_); (· rfl)) | fail) <;> (conv => whnf))
  refine Go.Eng.Fn.frame [] (by rfl) (by exact trivial) (by rfl) (k (fun v hv e => ?_) (fun _ => ?_))
  · cases v with
    | tally c => exact absurd ⟨c, hv, e⟩ hL
    | _ =>
      conv => whnf
      repeat' ((first | ((with_reducible refine regx_of ?_ ?_); (· decide +kernel)) | ((with_reducible refine growx_pre ?_ ?_); (· exact ⟨_, rfl⟩)) | (with_reducible first | refine condm_b ‹_› ?_ | refine needm_of ‹_› ?_ | refine forceL_fv ‹_› ?_ | refine forceL_rfv ‹_› ?_ | refine forceNm_of ?_ | refine forceA_of ?_) | ((with_reducible refine needm_of ?_ ?_); (· first | assumption | exact decide_eq_true (by omega) | exact mkOK_of (by decide) | decide +kernel | (refine decide_eq_true ?_; simp (disch := omega) only [i64w]; omega))) | ((with_reducible refine condm_b ?_ ?_); (· assumption)) | (with_reducible first | refine needm_of (fv_lenL ‹_› ‹_›) ?_ | refine optm_var (fv_strL ‹_› ‹_›) (fun s hs => ?_) | refine forceL_pl ‹_› ?_ | refine forceL_rpl ‹_› ?_) | ((with_reducible refine condm_pos ?_ ?_); (· rfl)) | ((with_reducible refine condm_neg ?_ ?_); (· rfl)) | fail) <;> (conv => whnf))
      exact keepOf (v₀ := .t [.a (.str ByteArray.empty), .a (.int .i64 120)]) [] [] rfl trivial rfl hK
  ·
    conv => whnf
    repeat' ((first | ((with_reducible refine regx_of ?_ ?_); (· decide +kernel)) | ((with_reducible refine growx_pre ?_ ?_); (· exact ⟨_, rfl⟩)) | (with_reducible first | refine condm_b ‹_› ?_ | refine needm_of ‹_› ?_ | refine forceL_fv ‹_› ?_ | refine forceL_rfv ‹_› ?_ | refine forceNm_of ?_ | refine forceA_of ?_) | ((with_reducible refine needm_of ?_ ?_); (· first | assumption | exact decide_eq_true (by omega) | exact mkOK_of (by decide) | decide +kernel | (refine decide_eq_true ?_; simp (disch := omega) only [i64w]; omega))) | ((with_reducible refine condm_b ?_ ?_); (· assumption)) | (with_reducible first | refine needm_of (fv_lenL ‹_› ‹_›) ?_ | refine optm_var (fv_strL ‹_› ‹_›) (fun s hs => ?_) | refine forceL_pl ‹_› ?_ | refine forceL_rpl ‹_› ?_) | ((with_reducible refine condm_pos ?_ ?_); (· rfl)) | ((with_reducible refine condm_neg ?_ ?_); (· rfl)) | fail) <;> (conv => whnf))
    exact keepOf (v₀ := .t [.a (.str ByteArray.empty), .a (.int .i64 120)]) [] [] rfl trivial rfl hK
set_option maxHeartbeats 1000000 in
theorem asTallyO (L : List UInt8) (hL : ¬ IsT L) {K : V → Hp → Prop} (hK : K (.t [.a (.int .i32 0), .a (.int .i64 120)]) []) :
    Go.Eng.Fn Try.prog ro 15 [.a (.str (bs L))] [] K := by
  refine Go.Eng.Fn.weak ?_
  refine Go.Eng.Fn.of_code (gOf []) Try.func15 rfl (Nat.le_of_ble_eq_true rfl) ?_
  have k := @kindAll ro L
  generalize bs L = s at k ⊢
  conv => whnf
  repeat' ((first | ((with_reducible refine regx_of ?_ ?_); (· decide +kernel)) | ((with_reducible refine growx_pre ?_ ?_); (· exact ⟨_, rfl⟩)) | (with_reducible first | refine condm_b ‹_› ?_ | refine needm_of ‹_› ?_ | refine forceL_fv ‹_› ?_ | refine forceL_rfv ‹_› ?_ | refine forceNm_of ?_ | refine forceA_of ?_) | ((with_reducible refine needm_of ?_ ?_); (· first | assumption | exact decide_eq_true (by omega) | exact mkOK_of (by decide) | decide +kernel | (refine decide_eq_true ?_; simp (disch := omega) only [i64w]; omega))) | ((with_reducible refine condm_b ?_ ?_); (· assumption)) | (with_reducible first | refine needm_of (fv_lenL ‹_› ‹_›) ?_ | refine optm_var (fv_strL ‹_› ‹_›) (fun s hs => ?_) | refine forceL_pl ‹_› ?_ | refine forceL_rpl ‹_› ?_) | ((with_reducible refine condm_pos ?_ ?_); (· rfl)) | ((with_reducible refine condm_neg ?_ ?_); (· rfl)) | fail) <;> (conv => whnf))
  refine Go.Eng.Fn.frame [] (by rfl) (by exact trivial) (by rfl) (k (fun v hv e => ?_) (fun _ => ?_))
  · cases v with
    | tally c => exact absurd ⟨c, hv, e⟩ hL
    | _ =>
      conv => whnf
      repeat' ((first | ((with_reducible refine regx_of ?_ ?_); (· decide +kernel)) | ((with_reducible refine growx_pre ?_ ?_); (· exact ⟨_, rfl⟩)) | (with_reducible first | refine condm_b ‹_› ?_ | refine needm_of ‹_› ?_ | refine forceL_fv ‹_› ?_ | refine forceL_rfv ‹_› ?_ | refine forceNm_of ?_ | refine forceA_of ?_) | ((with_reducible refine needm_of ?_ ?_); (· first | assumption | exact decide_eq_true (by omega) | exact mkOK_of (by decide) | decide +kernel | (refine decide_eq_true ?_; simp (disch := omega) only [i64w]; omega))) | ((with_reducible refine condm_b ?_ ?_); (· assumption)) | (with_reducible first | refine needm_of (fv_lenL ‹_› ‹_›) ?_ | refine optm_var (fv_strL ‹_› ‹_›) (fun s hs => ?_) | refine forceL_pl ‹_› ?_ | refine forceL_rpl ‹_› ?_) | ((with_reducible refine condm_pos ?_ ?_); (· rfl)) | ((with_reducible refine condm_neg ?_ ?_); (· rfl)) | fail) <;> (conv => whnf))
      exact keepOf (v₀ := .t [.a (.int .i32 0), .a (.int .i64 120)]) [] [] rfl trivial rfl hK
  ·
    conv => whnf
    repeat' ((first | ((with_reducible refine regx_of ?_ ?_); (· decide +kernel)) | ((with_reducible refine growx_pre ?_ ?_); (· exact ⟨_, rfl⟩)) | (with_reducible first | refine condm_b ‹_› ?_ | refine needm_of ‹_› ?_ | refine forceL_fv ‹_› ?_ | refine forceL_rfv ‹_› ?_ | refine forceNm_of ?_ | refine forceA_of ?_) | ((with_reducible refine needm_of ?_ ?_); (· first | assumption | exact decide_eq_true (by omega) | exact mkOK_of (by decide) | decide +kernel | (refine decide_eq_true ?_; simp (disch := omega) only [i64w]; omega))) | ((with_reducible refine condm_b ?_ ?_); (· assumption)) | (with_reducible first | refine needm_of (fv_lenL ‹_› ‹_›) ?_ | refine optm_var (fv_strL ‹_› ‹_›) (fun s hs => ?_) | refine forceL_pl ‹_› ?_ | refine forceL_rpl ‹_› ?_) | ((with_reducible refine condm_pos ?_ ?_); (· rfl)) | ((with_reducible refine condm_neg ?_ ?_); (· rfl)) | fail) <;> (conv => whnf))
    exact keepOf (v₀ := .t [.a (.int .i32 0), .a (.int .i64 120)]) [] [] rfl trivial rfl hK
set_option maxHeartbeats 1000000 in
theorem stepRO (L : List UInt8) (hL : ¬ IsT L) (r b : Int) {K : V → Hp → Prop} (hK : K (.t [.a (.str ByteArray.empty), .a (.int .i64 120)]) []) :
    Go.Eng.Fn Try.prog ro 14 [.a (.str (bs L)), .a (.int .u8 r), .a (.int .i16 b)] [] K := by
  refine Go.Eng.Fn.weak ?_
  refine Go.Eng.Fn.of_code (gOf []) Try.func14 rfl (Nat.le_of_ble_eq_true rfl) ?_
  have k := @apartAll ro L
  generalize bs L = s at k ⊢
  conv => whnf
  repeat' ((first | ((with_reducible refine regx_of ?_ ?_); (· decide +kernel)) | ((with_reducible refine growx_pre ?_ ?_); (· exact ⟨_, rfl⟩)) | (with_reducible first | refine condm_b ‹_› ?_ | refine needm_of ‹_› ?_ | refine forceL_fv ‹_› ?_ | refine forceL_rfv ‹_› ?_ | refine forceNm_of ?_ | refine forceA_of ?_) | ((with_reducible refine needm_of ?_ ?_); (· first | assumption | exact decide_eq_true (by omega) | exact mkOK_of (by decide) | decide +kernel | (refine decide_eq_true ?_; simp (disch := omega) only [i64w]; omega))) | ((with_reducible refine condm_b ?_ ?_); (· assumption)) | (with_reducible first | refine needm_of (fv_lenL ‹_› ‹_›) ?_ | refine optm_var (fv_strL ‹_› ‹_›) (fun s hs => ?_) | refine forceL_pl ‹_› ?_ | refine forceL_rpl ‹_› ?_) | ((with_reducible refine condm_pos ?_ ?_); (· rfl)) | ((with_reducible refine condm_neg ?_ ?_); (· rfl)) | fail) <;> (conv => whnf))
  refine Go.Eng.Fn.frame [] (by rfl) (by exact trivial) (by rfl) (k (fun _ => ?_) (fun v _ _ h3 fs rs Y X n1 c1 n c mk1 mk hfs _ hrs _ => ?_) (fun d hd e => absurd ⟨d, hd, e⟩ hL))
  ·
    conv => whnf
    repeat' ((first | ((with_reducible refine regx_of ?_ ?_); (· decide +kernel)) | ((with_reducible refine growx_pre ?_ ?_); (· exact ⟨_, rfl⟩)) | (with_reducible first | refine condm_b ‹_› ?_ | refine needm_of ‹_› ?_ | refine forceL_fv ‹_› ?_ | refine forceL_rfv ‹_› ?_ | refine forceNm_of ?_ | refine forceA_of ?_) | ((with_reducible refine needm_of ?_ ?_); (· first | assumption | exact decide_eq_true (by omega) | exact mkOK_of (by decide) | decide +kernel | (refine decide_eq_true ?_; simp (disch := omega) only [i64w]; omega))) | ((with_reducible refine condm_b ?_ ?_); (· assumption)) | (with_reducible first | refine needm_of (fv_lenL ‹_› ‹_›) ?_ | refine optm_var (fv_strL ‹_› ‹_›) (fun s hs => ?_) | refine forceL_pl ‹_› ?_ | refine forceL_rpl ‹_› ?_) | ((with_reducible refine condm_pos ?_ ?_); (· rfl)) | ((with_reducible refine condm_neg ?_ ?_); (· rfl)) | fail) <;> (conv => whnf))
    exact keepOf (v₀ := .t [.a (.str ByteArray.empty), .a (.int .i64 120)]) [] [] rfl trivial rfl hK
  · have hp := i32s_pl hrs
    have hfp := f64s_pl hfs
    have d3 : ((v.kind.toNat : Int) != 3) = true := by
      simp only [bne_iff_ne, ne_eq]
      intro e
      exact h3 (UInt8.toNat_inj.1 (show v.kind.toNat = 3 by omega))
    generalize (v.kind.toNat : Int) = z at *
    conv => whnf
    repeat' ((first | ((with_reducible refine regx_of ?_ ?_); (· decide +kernel)) | ((with_reducible refine growx_pre ?_ ?_); (· exact ⟨_, rfl⟩)) | (with_reducible first | refine condm_b ‹_› ?_ | refine needm_of ‹_› ?_ | refine forceL_fv ‹_› ?_ | refine forceL_rfv ‹_› ?_ | refine forceNm_of ?_ | refine forceA_of ?_) | ((with_reducible refine needm_of ?_ ?_); (· first | assumption | exact decide_eq_true (by omega) | exact mkOK_of (by decide) | decide +kernel | (refine decide_eq_true ?_; simp (disch := omega) only [i64w]; omega))) | ((with_reducible refine condm_b ?_ ?_); (· assumption)) | (with_reducible first | refine needm_of (fv_lenL ‹_› ‹_›) ?_ | refine optm_var (fv_strL ‹_› ‹_›) (fun s hs => ?_) | refine forceL_pl ‹_› ?_ | refine forceL_rpl ‹_› ?_) | ((with_reducible refine condm_pos ?_ ?_); (· rfl)) | ((with_reducible refine condm_neg ?_ ?_); (· rfl)) | fail) <;> (conv => whnf))
    exact keepOf (v₀ := .t [.a (.str ByteArray.empty), .a (.int .i64 120)]) [] [] rfl trivial rfl hK
set_option maxHeartbeats 1000000 in
theorem asTallyRO (L : List UInt8) (hL : ¬ IsT L) {K : V → Hp → Prop} (hK : K (.t [.a (.int .i32 0), .a (.int .i64 120)]) []) :
    Go.Eng.Fn Try.prog ro 16 [.a (.str (bs L))] [] K := by
  refine Go.Eng.Fn.weak ?_
  refine Go.Eng.Fn.of_code (gOf []) Try.func16 rfl (Nat.le_of_ble_eq_true rfl) ?_
  have k := @apartAll ro L
  generalize bs L = s at k ⊢
  conv => whnf
  repeat' ((first | ((with_reducible refine regx_of ?_ ?_); (· decide +kernel)) | ((with_reducible refine growx_pre ?_ ?_); (· exact ⟨_, rfl⟩)) | (with_reducible first | refine condm_b ‹_› ?_ | refine needm_of ‹_› ?_ | refine forceL_fv ‹_› ?_ | refine forceL_rfv ‹_› ?_ | refine forceNm_of ?_ | refine forceA_of ?_) | ((with_reducible refine needm_of ?_ ?_); (· first | assumption | exact decide_eq_true (by omega) | exact mkOK_of (by decide) | decide +kernel | (refine decide_eq_true ?_; simp (disch := omega) only [i64w]; omega))) | ((with_reducible refine condm_b ?_ ?_); (· assumption)) | (with_reducible first | refine needm_of (fv_lenL ‹_› ‹_›) ?_ | refine optm_var (fv_strL ‹_› ‹_›) (fun s hs => ?_) | refine forceL_pl ‹_› ?_ | refine forceL_rpl ‹_› ?_) | ((with_reducible refine condm_pos ?_ ?_); (· rfl)) | ((with_reducible refine condm_neg ?_ ?_); (· rfl)) | fail) <;> (conv => whnf))
  refine Go.Eng.Fn.frame [] (by rfl) (by exact trivial) (by rfl) (k (fun _ => ?_) (fun v _ _ h3 fs rs Y X n1 c1 n c mk1 mk hfs _ hrs _ => ?_) (fun d hd e => absurd ⟨d, hd, e⟩ hL))
  ·
    conv => whnf
    repeat' ((first | ((with_reducible refine regx_of ?_ ?_); (· decide +kernel)) | ((with_reducible refine growx_pre ?_ ?_); (· exact ⟨_, rfl⟩)) | (with_reducible first | refine condm_b ‹_› ?_ | refine needm_of ‹_› ?_ | refine forceL_fv ‹_› ?_ | refine forceL_rfv ‹_› ?_ | refine forceNm_of ?_ | refine forceA_of ?_) | ((with_reducible refine needm_of ?_ ?_); (· first | assumption | exact decide_eq_true (by omega) | exact mkOK_of (by decide) | decide +kernel | (refine decide_eq_true ?_; simp (disch := omega) only [i64w]; omega))) | ((with_reducible refine condm_b ?_ ?_); (· assumption)) | (with_reducible first | refine needm_of (fv_lenL ‹_› ‹_›) ?_ | refine optm_var (fv_strL ‹_› ‹_›) (fun s hs => ?_) | refine forceL_pl ‹_› ?_ | refine forceL_rpl ‹_› ?_) | ((with_reducible refine condm_pos ?_ ?_); (· rfl)) | ((with_reducible refine condm_neg ?_ ?_); (· rfl)) | fail) <;> (conv => whnf))
    exact keepOf (v₀ := .t [.a (.int .i32 0), .a (.int .i64 120)]) [] [] rfl trivial rfl hK
  · have hp := i32s_pl hrs
    have hfp := f64s_pl hfs
    have d3 : ((v.kind.toNat : Int) != 3) = true := by
      simp only [bne_iff_ne, ne_eq]
      intro e
      exact h3 (UInt8.toNat_inj.1 (show v.kind.toNat = 3 by omega))
    generalize (v.kind.toNat : Int) = z at *
    conv => whnf
    repeat' ((first | ((with_reducible refine regx_of ?_ ?_); (· decide +kernel)) | ((with_reducible refine growx_pre ?_ ?_); (· exact ⟨_, rfl⟩)) | (with_reducible first | refine condm_b ‹_› ?_ | refine needm_of ‹_› ?_ | refine forceL_fv ‹_› ?_ | refine forceL_rfv ‹_› ?_ | refine forceNm_of ?_ | refine forceA_of ?_) | ((with_reducible refine needm_of ?_ ?_); (· first | assumption | exact decide_eq_true (by omega) | exact mkOK_of (by decide) | decide +kernel | (refine decide_eq_true ?_; simp (disch := omega) only [i64w]; omega))) | ((with_reducible refine condm_b ?_ ?_); (· assumption)) | (with_reducible first | refine needm_of (fv_lenL ‹_› ‹_›) ?_ | refine optm_var (fv_strL ‹_› ‹_›) (fun s hs => ?_) | refine forceL_pl ‹_› ?_ | refine forceL_rpl ‹_› ?_) | ((with_reducible refine condm_pos ?_ ?_); (· rfl)) | ((with_reducible refine condm_neg ?_ ?_); (· rfl)) | fail) <;> (conv => whnf))
    exact keepOf (v₀ := .t [.a (.int .i32 0), .a (.int .i64 120)]) [] [] rfl trivial rfl hK
set_option maxHeartbeats 400000 in
theorem tally17 {K : V → Hp → Prop} (hK : K (.a (.str (bs [3]))) []) : Go.Eng.Fn Try.prog ro 17 [] [] K := by
  refine Go.Eng.Fn.weak ?_
  refine Go.Eng.Fn.of_code (gOf []) Try.func17 rfl (Nat.le_of_ble_eq_true rfl) ?_
  conv => whnf
  repeat' ((first | ((with_reducible refine regx_of ?_ ?_); (· decide +kernel)) | ((with_reducible refine growx_pre ?_ ?_); (· exact ⟨_, rfl⟩)) | (with_reducible first | refine condm_b ‹_› ?_ | refine needm_of ‹_› ?_ | refine forceL_fv ‹_› ?_ | refine forceL_rfv ‹_› ?_ | refine forceNm_of ?_ | refine forceA_of ?_) | ((with_reducible refine needm_of ?_ ?_); (· first | assumption | exact decide_eq_true (by omega) | exact mkOK_of (by decide) | decide +kernel | (refine decide_eq_true ?_; simp (disch := omega) only [i64w]; omega))) | ((with_reducible refine condm_b ?_ ?_); (· assumption)) | (with_reducible first | refine needm_of (fv_lenL ‹_› ‹_›) ?_ | refine optm_var (fv_strL ‹_› ‹_›) (fun s hs => ?_) | refine forceL_pl ‹_› ?_ | refine forceL_rpl ‹_› ?_) | ((with_reducible refine condm_pos ?_ ?_); (· rfl)) | ((with_reducible refine condm_neg ?_ ?_); (· rfl)) | fail) <;> (conv => whnf))
  exact keepOf (v₀ := .a (.str (bs [3]))) [] [] rfl trivial rfl hK
end
end Go.Proofs.Ytimddbgnaeeggaa.KD
