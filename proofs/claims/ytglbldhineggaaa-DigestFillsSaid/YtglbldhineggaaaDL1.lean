import Derived.Test.YtglbldhineggaaaDS
import Derived.Test.YtglbldhineggaaaDT
namespace Go.Proofs.Ytglbldhineggaaa.DG
open Go.Eng
set_option maxRecDepth 100000
section
variable {ro : Addr → A → Prop}
theorem fillS_le (n : Nat) : (fillS n).length + 66 ≤ 140737488355328 := by rw [fillS_length]; omega
set_option maxHeartbeats 0 in
theorem fills3 (n m : Nat) : Go.Eng.Fn Try.prog ro 3 [.a (.int .u64 n), .a (.int .u64 m)] [] (fun v _ => v = .a (.bool true)) := by
  refine Go.Eng.Fn.of 0 h3 rfl Try.func3 rfl (Nat.le_of_ble_eq_true rfl) ?_
  conv => whnf
  refine Fn.frame [] (by rfl) (by exact trivial) (by rfl) (fill12 _ (fun x₀ cs₀ len₀ cap₀ hcs₀ hl₀ hc₀ => ?_))
  conv => whnf
  repeat' (first
    | ((with_reducible refine regx_of ?_ ?_); (· decide +kernel); conv => whnf)
    | ((with_reducible refine growx_pre ?_ ?_); (· exact ⟨_, rfl⟩); conv => whnf)
    | ((with_reducible refine needm_of ?_ ?_); (· first | assumption | exact decide_eq_true (by omega) | decide +kernel | (refine decide_eq_true ?_; simp (disch := omega) only [i64w]; omega)); conv => whnf)
    | ((with_reducible refine condm_pos ?_ ?_); (· assumption); conv => whnf)
    | ((with_reducible refine condm_neg ?_ ?_); (· assumption); conv => whnf)
    | ((with_reducible refine forceL_fv (by assumption) ?_); conv => whnf)
    | ((with_reducible refine forceL_rfv (by assumption) ?_); conv => whnf)
    | ((with_reducible refine forceNm_of ?_); conv => whnf)
    | ((with_reducible refine needm_of (fv_lenL (by assumption) (by assumption)) ?_); conv => whnf)
    | ((with_reducible refine optm_var (fv_strL (by assumption) (by assumption)) (fun s hs => ?_)); conv => whnf)
    | ((with_reducible refine forceA_of ?_); conv => whnf)
    | fail)
  refine Fn.frame [] (by rfl) (by exact trivial) (by rfl) (fill13 _ (fun x₁ cs₁ len₁ cap₁ hcs₁ hl₁ hc₁ => ?_))
  conv => whnf
  repeat' (first
    | ((with_reducible refine regx_of ?_ ?_); (· decide +kernel); conv => whnf)
    | ((with_reducible refine growx_pre ?_ ?_); (· exact ⟨_, rfl⟩); conv => whnf)
    | ((with_reducible refine needm_of ?_ ?_); (· first | assumption | exact decide_eq_true (by omega) | decide +kernel | (refine decide_eq_true ?_; simp (disch := omega) only [i64w]; omega)); conv => whnf)
    | ((with_reducible refine condm_pos ?_ ?_); (· assumption); conv => whnf)
    | ((with_reducible refine condm_neg ?_ ?_); (· assumption); conv => whnf)
    | ((with_reducible refine forceL_fv (by assumption) ?_); conv => whnf)
    | ((with_reducible refine forceL_rfv (by assumption) ?_); conv => whnf)
    | ((with_reducible refine forceNm_of ?_); conv => whnf)
    | ((with_reducible refine needm_of (fv_lenL (by assumption) (by assumption)) ?_); conv => whnf)
    | ((with_reducible refine optm_var (fv_strL (by assumption) (by assumption)) (fun s hs => ?_)); conv => whnf)
    | ((with_reducible refine forceA_of ?_); conv => whnf)
    | (refine Fn.frame [] (by rfl) (by exact trivial) (by rfl) (fill12 _ (fun x cs len cap hcs hl hc => ?_)); conv => whnf)
    | (refine Fn.frame [] (by rfl) (by exact trivial) (by rfl) (fill13 _ (fun x cs len cap hcs hl hc => ?_)); conv => whnf)
    | ((with_reducible refine condm_neg ?_ ?_); (· simp [*]; done); conv => whnf)
    | ((with_reducible refine condm_pos ?_ ?_); (· simp [*]; done); conv => whnf)
    | fail)
  refine Fn.frame [1] (by rfl) (by exact ⟨ren_fv hcs₁ _ _ _, trivial⟩) (by simp [nodupb, V.okb, A.okb, Ob.okb, all_fv hcs₁]) (spoil14 cs₁ _ len₁ cap₁ hcs₁ (by omega) (by rw [hc₁, hl₁, List.length_append]) (by rw [hl₁]; exact fillS_le n) (fun cs₂ L₂ hcs₂ hL₂ => ?_))
  conv => whnf
  repeat' (first
    | ((with_reducible refine regx_of ?_ ?_); (· decide +kernel); conv => whnf)
    | ((with_reducible refine growx_pre ?_ ?_); (· exact ⟨_, rfl⟩); conv => whnf)
    | ((with_reducible refine needm_of ?_ ?_); (· first | assumption | exact decide_eq_true (by omega) | decide +kernel | (refine decide_eq_true ?_; simp (disch := omega) only [i64w]; omega)); conv => whnf)
    | ((with_reducible refine condm_pos ?_ ?_); (· assumption); conv => whnf)
    | ((with_reducible refine condm_neg ?_ ?_); (· assumption); conv => whnf)
    | ((with_reducible refine forceL_fv (by assumption) ?_); conv => whnf)
    | ((with_reducible refine forceL_rfv (by assumption) ?_); conv => whnf)
    | ((with_reducible refine forceNm_of ?_); conv => whnf)
    | ((with_reducible refine needm_of (fv_lenL (by assumption) (by assumption)) ?_); conv => whnf)
    | ((with_reducible refine optm_var (fv_strL (by assumption) (by assumption)) (fun s hs => ?_)); conv => whnf)
    | ((with_reducible refine forceA_of ?_); conv => whnf)
    | (refine Fn.frame [] (by rfl) (by exact trivial) (by rfl) (fill12 _ (fun x cs len cap hcs hl hc => ?_)); conv => whnf)
    | (refine Fn.frame [] (by rfl) (by exact trivial) (by rfl) (fill13 _ (fun x cs len cap hcs hl hc => ?_)); conv => whnf)
    | ((with_reducible refine condm_neg ?_ ?_); (· simp [*]; done); conv => whnf)
    | ((with_reducible refine condm_pos ?_ ?_); (· simp [*]; done); conv => whnf)
    | (refine congrArg (fun b => V.a (A.bool b)) ?_; simp [*]; done)
    | fail)
end
theorem top3 (W : World) (n : Int) (hn : IntKind.u64.min ≤ n ∧ n ≤ IntKind.u64.max) (m : Int) (hm : IntKind.u64.min ≤ m ∧ m ≤ IntKind.u64.max) : Go.Eng.Fn Try.prog (roOf W) 3 [.a (.int .u64 n), .a (.int .u64 m)] [] (fun v _ => v = .a (.bool true)) := by
  obtain ⟨k, rfl⟩ := Int.eq_ofNat_of_zero_le (show 0 ≤ n from hn.1)
  obtain ⟨l, rfl⟩ := Int.eq_ofNat_of_zero_le (show 0 ≤ m from hm.1)
  exact fills3 k l
end Go.Proofs.Ytglbldhineggaaa.DG
