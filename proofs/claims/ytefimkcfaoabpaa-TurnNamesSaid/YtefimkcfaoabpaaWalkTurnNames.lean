/- The law TurnNames: its walk, by running it. -/
import Derived.Test.YtefimkcfaoabpaaEngE
import Derived.Test.YtefimkcfaoabpaaProg
namespace Go.Proofs.Ytefimkcfaoabpaa.WalkTurnNames
open Go.Eng
set_option maxRecDepth 100000
theorem walk : Go.Eng.Fn Try.prog (fun _ _ => False) 5 [] [] (fun v _ => v = .a (.bool true)) := by
  repeat (first
    | (refine Go.Eng.Fn.of_code (fun _ => []) Try.func5 rfl (by decide) ?_; conv => whnf)
    | (refine Go.Eng.Fn.of_code (fun _ => []) Try.func6 rfl (by decide) ?_; conv => whnf)
    | (refine Go.Eng.Fn.of_code (fun _ => []) Try.func7 rfl (by decide) ?_; conv => whnf)
    | (refine Go.Eng.Fn.of_code (fun _ => []) Try.func8 rfl (by decide) ?_; conv => whnf)
    | (refine Go.Eng.Fn.of_code (fun _ => []) Try.func9 rfl (by decide) ?_; conv => whnf)
    | (refine Go.Eng.Fn.of_code (fun _ => []) Try.func10 rfl (by decide) ?_; conv => whnf)
    | (refine Go.Eng.Fn.of_code (fun _ => []) Try.func11 rfl (by decide) ?_; conv => whnf)
    | (refine Go.Eng.Fn.of_code (fun _ => []) Try.func12 rfl (by decide) ?_; conv => whnf)
    | (refine Go.Eng.Fn.of_code (fun _ => []) Try.func13 rfl (by decide) ?_; conv => whnf)
    | (refine Go.Eng.Fn.of_code (fun _ => []) Try.func14 rfl (by decide) ?_; conv => whnf)
    | (refine Go.Eng.Fn.of_code (fun _ => []) Try.func15 rfl (by decide) ?_; conv => whnf)
    | (refine Go.Eng.Fn.of_code (fun _ => []) Try.func16 rfl (by decide) ?_; conv => whnf)
    | (refine Go.Eng.Fn.of_code (fun _ => []) Try.func17 rfl (by decide) ?_; conv => whnf)
    | (refine Go.Eng.Fn.of_code (fun _ => []) Try.func18 rfl (by decide) ?_; conv => whnf)
    | (refine Go.Eng.Fn.of_code (fun _ => []) Try.func19 rfl (by decide) ?_; conv => whnf)
    | (refine Go.Eng.Fn.of_code (fun _ => []) Try.func20 rfl (by decide) ?_; conv => whnf)
    | (refine Go.Eng.Fn.of_code (fun _ => []) Try.func21 rfl (by decide) ?_; conv => whnf)
    | (refine Go.Eng.Fn.of_code (fun _ => []) Try.func22 rfl (by decide) ?_; conv => whnf)
    | (refine Go.Eng.Fn.of_code (fun _ => []) Try.func23 rfl (by decide) ?_; conv => whnf)
    | (refine Go.Eng.Fn.of_code (fun _ => []) Try.func24 rfl (by decide) ?_; conv => whnf)
    | (refine Go.Eng.Fn.of_code (fun _ => []) Try.func25 rfl (by decide) ?_; conv => whnf)
    | (refine Go.Eng.Fn.of_code (fun _ => []) Try.func26 rfl (by decide) ?_; conv => whnf)
    | (refine Go.Eng.Fn.of_code (fun _ => []) Try.func27 rfl (by decide) ?_; conv => whnf)
    | (refine Go.Eng.Fn.of_code (fun _ => []) Try.func28 rfl (by decide) ?_; conv => whnf)
    | (refine Go.Eng.Fn.of_code (fun _ => []) Try.func29 rfl (by decide) ?_; conv => whnf)
    | (refine needx_of (by decide +kernel) ?_; refine ⟨_, EqAgg.of rfl, ?_⟩; conv => whnf)
    | (refine loopx_iter 4096 ?_; conv => whnf)
    | exact rfl)
end Go.Proofs.Ytefimkcfaoabpaa.WalkTurnNames
