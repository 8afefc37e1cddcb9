import Derived.Test.YtefimkcfaoabpaaTD
namespace Go.Proofs.Ytefimkcfaoabpaa.TA
open Go.Eng
set_option maxRecDepth 100000
section
variable {ro : Addr → A → Prop}
set_option maxHeartbeats 0 in
theorem awake25 {K : V → Hp → Prop} (hk : K (.a (.bool true)) []) : Go.Eng.Fn Try.prog ro 25 [] [] K := by
  refine Go.Eng.Fn.weak ?_
  refine Go.Eng.Fn.of 0 (gOf []) rfl Try.func25 rfl (Nat.le_of_ble_eq_true rfl) ?_
  conv => whnf
  have hu : IntKind.u32.wrap (0 + 1) = 1 := by decide
  have hi : IntKind.i64.wrap (0 + 1) = 1 := by decide
  repeat' (first
    | ((with_reducible refine regx_of ?_ ?_); (· decide +kernel); conv => whnf)
    | ((with_reducible refine growx_pre ?_ ?_); (· exact ⟨_, rfl⟩); conv => whnf)
    | ((with_reducible refine needm_of ?_ ?_); (· first | assumption | exact decide_eq_true (by omega) | decide +kernel | (refine decide_eq_true ?_; simp (disch := omega) only [i64w]; omega)); conv => whnf)
    | ((with_reducible refine condm_pos ?_ ?_); (· assumption); conv => whnf)
    | ((with_reducible refine condm_neg ?_ ?_); (· assumption); conv => whnf)
    | ((with_reducible refine forceL_fv (by assumption) ?_); conv => whnf)
    | ((with_reducible refine forceL_rfv (by assumption) ?_); conv => whnf)
    | ((with_reducible refine forceNm_of ?_); conv => whnf)
    | ((with_reducible refine needm_of (fv_lenL (by assumption) (by assumption)) ?_); conv => whnf)
    | ((with_reducible refine optm_var (fv_strL (by assumption) (by assumption)) (fun s hs => ?_)); conv => whnf)
    | ((with_reducible refine forceA_of ?_); conv => whnf)
    | (refine Fn.frame [] (by rfl) (by exact trivial) (by rfl) (new14 _ _ _ _ _ _ _ (fun hw => absurd ⟨by decide, by decide, by decide, by decide⟩ hw) (fun hw => ?_)); conv => whnf)
    | (refine Fn.frame [] (by rfl) (by exact trivial) (by rfl) (new7 _ _ _ _ _ _ ?_); conv => whnf)
    | (refine Fn.frame [0] (by rfl) (by exact ⟨rfl, trivial⟩) (by rfl) (ask16 _ _ _ _ _ _ _ _ _ _ _ _ _ _ _ (fun h1 => absurd h1 (by decide)) (fun h1 h2 => absurd h2 (by decide)) (fun h1 h2 h3 => absurd h3 (by decide)) (fun h1 h2 h3 z x y hz hx hy => ?_)); rw [hu] at hz; rw [hi] at hx hy; subst hz hx hy; conv => whnf)
    | (refine Fn.frame [1] (by rfl) (by exact ⟨rfl, trivial⟩) (by rfl) (take9 _ _ _ _ _ _ _ _ _ _ _ _ _ _ _ _ _ _ _ _ _ _ _ _ _ _ (by decide) (by decide) (fun h => absurd h (by decide)) (fun h => absurd h (by decide)) (fun h => ?_)); conv => whnf)
    | (refine Fn.frame [1] (by rfl) (by exact ⟨rfl, trivial⟩) (by rfl) (reply11 _ _ _ _ _ _ _ _ _ _ _ _ _ _ _ _ _ _ (fun h => absurd h (by decide)) (fun h => ?_)); conv => whnf)
    | (refine Fn.frame [0] (by rfl) (by exact ⟨rfl, trivial⟩) (by rfl) (take20 _ _ _ _ _ _ _ _ _ _ _ _ _ _ _ _ _ _ _ _ _ _ _ (fun h => absurd (by decide) h) (fun h => ?_)); conv => whnf)
    | (refine Fn.frame [0] (by rfl) (by exact ⟨rfl, trivial⟩) (by rfl) (ticket23 _ _ _ _ _ _ _ _ _ _ _ _ _ _ ?_); conv => whnf)
    | exact keepOf [] [] rfl trivial rfl hk
    | fail)
end
end Go.Proofs.Ytefimkcfaoabpaa.TA
