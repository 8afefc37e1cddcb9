import Derived.Test.YtglbldhineggaaaDA
import Derived.Test.YtglbldhineggaaaDY
namespace Go.Proofs.Ytglbldhineggaaa.DG
open Go.Eng
set_option maxRecDepth 100000
section
variable {ro : Addr → A → Prop}
theorem abcU : unhex [98, 97, 55, 56, 49, 54, 98, 102] = some [186, 120, 22, 191] := by decide +kernel
theorem abcT : (digest [97, 98, 99]).take (4 : Int).toNat = [186, 120, 22, 191] := by rw [abcD]; rfl
set_option maxHeartbeats 1000000 in
theorem names11 : Go.Eng.Fn Try.prog ro 11 [] [] (fun v _ => v = .a (.bool true)) := by
  refine Go.Eng.Fn.of 0 (gOf []) rfl Try.func11 rfl (Nat.le_of_ble_eq_true rfl) ?_
  conv => whnf
  refine Go.Eng.Fn.frame [0] (by rfl) (by exact ⟨rfl, trivial⟩) (by rfl) (write31n 1 1 [.int .u8 1] (fun x hx => ⟨.u8, 1, by simpa using hx⟩) false ?_)
  conv => whnf
  refine Go.Eng.Fn.frame [] (by rfl) (by exact trivial) (by rfl) (text32n _ ?_)
  conv => whnf
  refine Go.Eng.Fn.frame [] (by rfl) (by exact trivial) (by rfl) (reset35n ?_)
  conv => whnf
  refine Go.Eng.Fn.frame [] (by rfl) (by exact trivial) (by rfl) (sum33n (fun os hos => ?_))
  subst hos
  conv => whnf
  refine ⟨_, EqAgg.of rfl, ?_⟩
  conv => whnf
  refine Go.Eng.Fn.frame [] (by rfl) (by exact trivial) (by rfl) (len36n ?_)
  conv => whnf
  refine Go.Eng.Fn.frame [] (by rfl) (by exact trivial) (by rfl) (copy34n ?_)
  conv => whnf
  refine Go.Eng.Fn.frame [] (by rfl) (by exact trivial) (by rfl) (cut26 { data := #[97, 98, 99] } [97, 98, 99] rfl (by decide) 4 (fun h => absurd (by decide) h) (fun _ r hr => ?_))
  rw [abcT] at hr
  subst hr
  conv => whnf
  refine Go.Eng.Fn.frame [] (by rfl) (by exact trivial) (by rfl) (fromHex16 { data := #[98, 97, 55, 56, 49, 54, 98, 102] } [98, 97, 55, 56, 49, 54, 98, 102] rfl (by decide) (fun h => ?_) (fun r h => ?_))
  · rw [abcU] at h
    cases h
  · rw [abcU] at h
    injection h with h
    subst h
    conv => whnf
    rfl
end
theorem top11 (W : World) : Go.Eng.Fn Try.prog (roOf W) 11 [] [] (fun v _ => v = .a (.bool true)) := names11
end Go.Proofs.Ytglbldhineggaaa.DG
