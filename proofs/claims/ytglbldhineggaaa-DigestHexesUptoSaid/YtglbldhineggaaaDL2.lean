import Derived.Test.YtglbldhineggaaaDY
namespace Go.Proofs.Ytglbldhineggaaa.DG
open Go.Eng
set_option maxRecDepth 100000
section
variable {ro : Addr → A → Prop}
set_option maxHeartbeats 0 in
theorem hexes4 (s t : ByteArray) (hs : s.data.toList.length ≤ 1048576) (ht : t.data.toList.length ≤ 1048576) : Go.Eng.Fn Try.prog ro 4 [.a (.str s), .a (.str t)] [] (fun v _ => v = .a (.bool true)) := by
  refine Go.Eng.Fn.of 0 (gOf []) rfl Try.func4 rfl (Nat.le_of_ble_eq_true rfl) ?_
  conv => whnf
  obtain ⟨l, hl⟩ : ∃ l, l = s.data.toList := ⟨_, rfl⟩
  obtain ⟨m, hm⟩ : ∃ m, m = t.data.toList := ⟨_, rfl⟩
  refine Fn.frame [] (by rfl) (by exact trivial) (by rfl) (fromHex15 t m hm (by rw [hm]; exact ht) (fun h0 => ?_) (fun r h0 => ?_))
  all_goals
    conv => whnf
    repeat' (first
      | ((with_reducible refine regx_of ?_ ?_); (· decide +kernel); conv => whnf)
      | ((with_reducible refine growx_pre ?_ ?_); (· exact ⟨_, rfl⟩); conv => whnf)
      | ((with_reducible refine needm_of ?_ ?_); (· first | assumption | exact decide_eq_true (by omega) | decide +kernel | (refine decide_eq_true ?_; simp (disch := omega) only [i64w]; omega)); conv => whnf)
      | ((with_reducible refine condm_pos ?_ ?_); (· assumption); conv => whnf)
      | ((with_reducible refine condm_neg ?_ ?_); (· assumption); conv => whnf)
      | ((with_reducible refine forceL_fv (by assumption) ?_); conv => whnf)
      | ((with_reducible refine forceL_rfv (by assumption) ?_); conv => whnf)
      | ((with_reducible refine forceNm_of ?_); conv => whnf)
      | ((with_reducible refine needm_of (fv_lenL (by assumption) (by assumption)) ?_); conv => whnf)
      | ((with_reducible refine optm_var (fv_strL (by assumption) (by assumption)) (fun s hs => ?_)); conv => whnf)
      | ((with_reducible refine forceA_of ?_); conv => whnf)
      | (refine Fn.frame [] (by rfl) (by exact trivial) (by rfl) (fromHex16 t m hm (by rw [hm]; exact ht) (fun h1 => ?_) (fun r1 h1 => ?_)) <;> first | (exfalso; simp_all; done) | (conv => whnf))
      | (refine Fn.frame [] (by rfl) (by exact trivial) (by rfl) (hex17 s l hl (by rw [hl]; exact hs) (fun x hx => ?_)); conv => whnf)
      | (refine Fn.frame [] (by rfl) (by exact trivial) (by rfl) (hex18 s l hl (by rw [hl]; exact hs) (fun y hy => ?_)); conv => whnf)
      | ((with_reducible refine condm_pos ?_ ?_); (· simp_all; done); conv => whnf)
      | ((with_reducible refine condm_neg ?_ ?_); (· simp_all; done); conv => whnf)
      | (refine congrArg (fun b => V.a (A.bool b)) ?_; simp_all; done)
      | fail)
end
theorem top4 (W : World) (s : ByteArray) (hs : s.data.toList.length ≤ 1048576) (t : ByteArray) (ht : t.data.toList.length ≤ 1048576) : Go.Eng.Fn Try.prog (roOf W) 4 [.a (.str s), .a (.str t)] [] (fun v _ => v = .a (.bool true)) := hexes4 s t hs ht
end Go.Proofs.Ytglbldhineggaaa.DG
