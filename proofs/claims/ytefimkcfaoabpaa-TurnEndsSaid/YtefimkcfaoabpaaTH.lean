import Derived.Test.YtefimkcfaoabpaaTG
namespace Go.Proofs.Ytefimkcfaoabpaa.TA
open Go.Eng
set_option maxRecDepth 100000
set_option maxHeartbeats 0 in
theorem ends_nil (ro : Addr → A → Prop) (w0 r0 : Int) :
    Go.Eng.Fn Try.prog ro 6 [.a (.int .i64 w0), .a (.int .i64 r0), .a .nils] [] (fun v _ => v = .a (.bool true)) := by
  refine Go.Eng.Fn.of 0 (gOf []) rfl Try.func6 rfl (Nat.le_of_ble_eq_true rfl) ?_
  conv => whnf
  refine Fn.frame [] (by rfl) (by exact trivial) (by rfl) (awake25 ?_)
  conv => whnf
  repeat' (first
    | ((with_reducible refine regx_of ?_ ?_); (· decide +kernel); conv => whnf)
    | ((with_reducible refine growx_pre ?_ ?_); (· exact ⟨_, rfl⟩); conv => whnf)
    | ((with_reducible refine needm_of ?_ ?_); (· first | assumption | exact decide_eq_true (by omega) | decide +kernel | (refine decide_eq_true ?_; simp (disch := omega) only [i64w]; omega)); conv => whnf)
    | ((with_reducible refine condm_pos ?_ ?_); (· assumption); conv => whnf)
    | ((with_reducible refine condm_neg ?_ ?_); (· assumption); conv => whnf)
    | ((with_reducible refine forceL_fv (by assumption) ?_); conv => whnf)
    | ((with_reducible refine forceL_rfv (by assumption) ?_); conv => whnf)
    | ((with_reducible refine forceNm_of ?_); conv => whnf)
    | ((with_reducible refine needm_of (fv_lenL (by assumption) (by assumption)) ?_); conv => whnf)
    | ((with_reducible refine optm_var (fv_strL (by assumption) (by assumption)) (fun s hs => ?_)); conv => whnf)
    | ((with_reducible refine forceA_of ?_); conv => whnf)
    | fail)
  obtain ⟨hw1, hw2⟩ := mod1 w0 7 (by decide) (by decide)
  obtain ⟨hr1, hr2⟩ := mod1 r0 16 (by decide) (by decide)
  generalize IntKind.i64.wrap (1 + (IntKind.i64.wrap (w0.tmod 7 + 7)).tmod 7) = w at *
  generalize IntKind.i64.wrap (1 + (IntKind.i64.wrap (r0.tmod 16 + 16)).tmod 16) = r at *
  refine Fn.frame [] (by rfl) (by exact trivial) (by rfl) (new14 _ _ _ _ _ _ _ (fun hw => absurd (⟨by omega, by omega, by omega, by omega⟩ : okn w r) hw) (fun hw => ?_))
  conv => whnf
  refine Fn.frame [] (by rfl) (by exact trivial) (by rfl) (new7 _ _ _ _ _ _ ?_)
  conv => whnf
  refine loopx_iter 1 ?_
  conv => whnf
theorem top6 (W : World) (w : Int) (_hw : IntKind.i64.min ≤ w ∧ w ≤ IntKind.i64.max) (r : Int) (_hr : IntKind.i64.min ≤ r ∧ r ≤ IntKind.i64.max) (y : A) (len cap : Nat) (G : Nat → List A) (hG : IsSl W 1 KI y len cap G) :
    Go.Eng.Fn Try.prog (roOf W) 6 [.a (.int .i64 w), .a (.int .i64 r), .a y] [] (fun v _ => v = .a (.bool true)) := by
  rcases id hG with ⟨rfl, _⟩ | ⟨p, rfl, h1, h2, _⟩
  · exact ends_nil _ w r
  · exact ends6 W w r p len cap G hG (Nat.le_trans h1 h2)
end Go.Proofs.Ytefimkcfaoabpaa.TA
