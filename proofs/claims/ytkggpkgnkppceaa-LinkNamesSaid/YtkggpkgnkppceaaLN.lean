import Derived.Test.YtkggpkgnkppceaaEngE
import Derived.Test.YtkggpkgnkppceaaProg
namespace Go.Proofs.Ytkggpkgnkppceaa.LN
open Go.Eng
set_option maxRecDepth 100000
theorem walk : Go.Eng.Fn Try.prog (fun _ _ => False) 4 [] [] (fun v _ => v = .a (.bool true)) := by
  repeat (first
    | (refine Go.Eng.Fn.of_code (fun _ => []) Try.func4 rfl (by decide) ?_; conv => whnf)
    | (refine Go.Eng.Fn.of_code (fun _ => []) Try.func15 rfl (by decide) ?_; conv => whnf)
    | (refine Go.Eng.Fn.of_code (fun _ => []) Try.func9 rfl (by decide) ?_; conv => whnf)
    | (refine Go.Eng.Fn.of_code (fun _ => []) Try.func11 rfl (by decide) ?_; conv => whnf)
    | (refine Go.Eng.Fn.of_code (fun _ => []) Try.func12 rfl (by decide) ?_; conv => whnf)
    | (refine Go.Eng.Fn.of_code (fun _ => []) Try.func13 rfl (by decide) ?_; conv => whnf)
    | (refine Go.Eng.Fn.of_code (fun _ => []) Try.func14 rfl (by decide) ?_; conv => whnf)
    | (refine Go.Eng.Fn.of_code (fun _ => []) Try.func16 rfl (by decide) ?_; conv => whnf)
    | (refine Go.Eng.Fn.of_code (fun _ => []) Try.func17 rfl (by decide) ?_; conv => whnf)
    | (refine Go.Eng.Fn.of_code (fun _ => []) Try.func25 rfl (by decide) ?_; conv => whnf))
end Go.Proofs.Ytkggpkgnkppceaa.LN
