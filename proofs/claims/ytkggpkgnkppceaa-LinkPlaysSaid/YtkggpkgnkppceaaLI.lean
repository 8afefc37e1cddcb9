import Derived.Test.YtkggpkgnkppceaaLH
namespace Go.Proofs.Ytkggpkgnkppceaa.LK
open Go.Eng
set_option maxRecDepth 100000
section
variable {ro : Addr → A → Prop}
set_option maxHeartbeats 400000 in
theorem index35n (o : UInt8) (ob : List A) (hob : ob = [.int .u8 (o.toNat : Int)]) {K : V → Hp → Prop} (hK : K (.a (.int .i64 (-1))) [.cells ob 5 false]) :
    Go.Eng.Fn Try.prog ro 35 [.a .nils, .a (.clo 27 [(0, 0)])] [.cells ob 5 false] K := by
  have hop : Pl ob := by rw [hob]; exact ⟨fun _ => rfl, fun _ => rfl⟩
  refine Go.Eng.Fn.weak ?_
  refine Go.Eng.Fn.of 1 (gOf []) rfl Try.func35 rfl (Nat.le_of_ble_eq_true rfl) ?_
  conv => whnf
  repeat' (first
    | rw [← hob]
    | ((with_reducible refine regx_of ?_ ?_); (· decide +kernel); conv => whnf)
    | ((with_reducible refine growx_pre ?_ ?_); (· exact ⟨_, rfl⟩); conv => whnf)
    | ((with_reducible refine needm_of ?_ ?_); (· first | assumption | exact decide_eq_true (by omega) | exact mkOK_of (by decide) | decide +kernel | (refine decide_eq_true ?_; simp (disch := omega) only [i64w]; omega)); conv => whnf)
    | ((with_reducible refine condm_pos ?_ ?_); (· assumption); conv => whnf)
    | ((with_reducible refine condm_neg ?_ ?_); (· assumption); conv => whnf)
    | ((with_reducible refine forceL_fv (by assumption) ?_); conv => whnf)
    | ((with_reducible refine forceL_rfv (by assumption) ?_); conv => whnf)
    | ((with_reducible refine forceNm_of ?_); conv => whnf)
    | ((with_reducible refine needm_of (fv_lenL (by assumption) (by assumption)) ?_); conv => whnf)
    | ((with_reducible refine optm_var (fv_strL (by assumption) (by assumption)) (fun s hs => ?_)); conv => whnf)
    | ((with_reducible refine forceA_of ?_); conv => whnf)
    | ((with_reducible refine forceL_pl (by assumption) ?_); conv => whnf)
    | ((with_reducible refine forceL_rpl (by assumption) ?_); conv => whnf)
    | fail)
  refine loopx_iter 1 ?_
  conv => whnf
  exact keepOf (v₀ := .a (.int .i64 (-1))) [.cells ob 5 false] [0] rfl ⟨ren_pl hop _ _ _, trivial⟩ (by simp [nodupb, baseb, Ob.okb, frmOk, V.okb, A.okb, hop.2]) hK
set_option maxHeartbeats 400000 in
theorem delete26n (o : UInt8) (ob : List A) (hob : ob = [.int .u8 (o.toNat : Int)]) {K : V → Hp → Prop} (hK : K (.a .nils) [.cells ob 5 false]) :
    Go.Eng.Fn Try.prog ro 26 [.a .nils, .a (.clo 27 [(0, 0)])] [.cells ob 5 false] K := by
  have hop : Pl ob := by rw [hob]; exact ⟨fun _ => rfl, fun _ => rfl⟩
  refine Go.Eng.Fn.weak ?_
  refine Go.Eng.Fn.of 1 (gOf []) rfl Try.func26 rfl (Nat.le_of_ble_eq_true rfl) ?_
  conv => whnf
  refine Go.Eng.Fn.frame [0] (by rfl) (by exact ⟨ren_pl hop _ _ _, trivial⟩) (by simp [nodupb, V.okb, A.okb, Ob.okb, hop.2] <;> decide) (index35n o ob hob ?_)
  conv => whnf
  repeat' (first
    | rw [← hob]
    | ((with_reducible refine regx_of ?_ ?_); (· decide +kernel); conv => whnf)
    | ((with_reducible refine growx_pre ?_ ?_); (· exact ⟨_, rfl⟩); conv => whnf)
    | ((with_reducible refine needm_of ?_ ?_); (· first | assumption | exact decide_eq_true (by omega) | exact mkOK_of (by decide) | decide +kernel | (refine decide_eq_true ?_; simp (disch := omega) only [i64w]; omega)); conv => whnf)
    | ((with_reducible refine condm_pos ?_ ?_); (· assumption); conv => whnf)
    | ((with_reducible refine condm_neg ?_ ?_); (· assumption); conv => whnf)
    | ((with_reducible refine forceL_fv (by assumption) ?_); conv => whnf)
    | ((with_reducible refine forceL_rfv (by assumption) ?_); conv => whnf)
    | ((with_reducible refine forceNm_of ?_); conv => whnf)
    | ((with_reducible refine needm_of (fv_lenL (by assumption) (by assumption)) ?_); conv => whnf)
    | ((with_reducible refine optm_var (fv_strL (by assumption) (by assumption)) (fun s hs => ?_)); conv => whnf)
    | ((with_reducible refine forceA_of ?_); conv => whnf)
    | ((with_reducible refine forceL_pl (by assumption) ?_); conv => whnf)
    | ((with_reducible refine forceL_rpl (by assumption) ?_); conv => whnf)
    | fail)
  exact keepOf (v₀ := .a .nils) [.cells ob 5 false] [0] rfl ⟨ren_pl hop _ _ _, trivial⟩ (by simp [nodupb, baseb, Ob.okb, frmOk, V.okb, A.okb, hop.2]) hK
set_option maxHeartbeats 400000 in
theorem cut13n (room : Int) (o : UInt8) {K : V → Hp → Prop} (hK : K (.a (.int .i64 0)) [.cells [.int .i64 room, .nils] 57 false]) :
    Go.Eng.Fn Try.prog ro 13 [.a (.ptr 0 0), .a (.int .u8 (o.toNat : Int))] [.cells [.int .i64 room, .nils] 57 false] K := by
  obtain ⟨ob, hob⟩ : ∃ ob : List A, ob = [.int .u8 (o.toNat : Int)] := ⟨_, rfl⟩
  have hop : Pl ob := by rw [hob]; exact ⟨fun _ => rfl, fun _ => rfl⟩
  refine Go.Eng.Fn.weak ?_
  refine Go.Eng.Fn.of 1 (gOf []) rfl Try.func13 rfl (Nat.le_of_ble_eq_true rfl) ?_
  conv => whnf
  repeat' (first
    | rw [← hob]
    | ((with_reducible refine regx_of ?_ ?_); (· decide +kernel); conv => whnf)
    | ((with_reducible refine growx_pre ?_ ?_); (· exact ⟨_, rfl⟩); conv => whnf)
    | ((with_reducible refine needm_of ?_ ?_); (· first | assumption | exact decide_eq_true (by omega) | exact mkOK_of (by decide) | decide +kernel | (refine decide_eq_true ?_; simp (disch := omega) only [i64w]; omega)); conv => whnf)
    | ((with_reducible refine condm_pos ?_ ?_); (· assumption); conv => whnf)
    | ((with_reducible refine condm_neg ?_ ?_); (· assumption); conv => whnf)
    | ((with_reducible refine forceL_fv (by assumption) ?_); conv => whnf)
    | ((with_reducible refine forceL_rfv (by assumption) ?_); conv => whnf)
    | ((with_reducible refine forceNm_of ?_); conv => whnf)
    | ((with_reducible refine needm_of (fv_lenL (by assumption) (by assumption)) ?_); conv => whnf)
    | ((with_reducible refine optm_var (fv_strL (by assumption) (by assumption)) (fun s hs => ?_)); conv => whnf)
    | ((with_reducible refine forceA_of ?_); conv => whnf)
    | ((with_reducible refine forceL_pl (by assumption) ?_); conv => whnf)
    | ((with_reducible refine forceL_rpl (by assumption) ?_); conv => whnf)
    | fail)
  refine Go.Eng.Fn.frame [1] (by rfl) (by exact ⟨ren_pl hop _ _ _, trivial⟩) (by simp [nodupb, V.okb, A.okb, Ob.okb, hop.2] <;> decide) (delete26n o ob hob ?_)
  conv => whnf
  repeat' (first
    | rw [← hob]
    | ((with_reducible refine regx_of ?_ ?_); (· decide +kernel); conv => whnf)
    | ((with_reducible refine growx_pre ?_ ?_); (· exact ⟨_, rfl⟩); conv => whnf)
    | ((with_reducible refine needm_of ?_ ?_); (· first | assumption | exact decide_eq_true (by omega) | exact mkOK_of (by decide) | decide +kernel | (refine decide_eq_true ?_; simp (disch := omega) only [i64w]; omega)); conv => whnf)
    | ((with_reducible refine condm_pos ?_ ?_); (· assumption); conv => whnf)
    | ((with_reducible refine condm_neg ?_ ?_); (· assumption); conv => whnf)
    | ((with_reducible refine forceL_fv (by assumption) ?_); conv => whnf)
    | ((with_reducible refine forceL_rfv (by assumption) ?_); conv => whnf)
    | ((with_reducible refine forceNm_of ?_); conv => whnf)
    | ((with_reducible refine needm_of (fv_lenL (by assumption) (by assumption)) ?_); conv => whnf)
    | ((with_reducible refine optm_var (fv_strL (by assumption) (by assumption)) (fun s hs => ?_)); conv => whnf)
    | ((with_reducible refine forceA_of ?_); conv => whnf)
    | ((with_reducible refine forceL_pl (by assumption) ?_); conv => whnf)
    | ((with_reducible refine forceL_rpl (by assumption) ?_); conv => whnf)
    | fail)
  exact keepOf (v₀ := .a (.int .i64 0)) [.cells [.int .i64 room, .nils] 57 false] [0] rfl ⟨rfl, trivial⟩ rfl hK
set_option maxHeartbeats 1000000 in
theorem cut13 (room : Int) (o : UInt8) (L y : List Fl) (cs : List A) (cap : Nat) (mk : Bool) (hcs : cs = fls (L ++ y)) (hcap : cap = L.length + y.length) (hL : L.length ≤ 1024) {K : V → Hp → Prop}
    (hK : ∀ y' cs', cs' = fls (L.filter (fun x => !hit o x) ++ y') → cap = (L.filter (fun x => !hit o x)).length + y'.length → K (.a (.int .i64 ((L.length - (L.filter (fun x => !hit o x)).length : Nat) : Int))) [.cells [.int .i64 room, .slc 1 0 (L.filter (fun x => !hit o x)).length cap] 57 false, .cells cs' 61 mk]) :
    Go.Eng.Fn Try.prog ro 13 [.a (.ptr 0 0), .a (.int .u8 (o.toNat : Int))] [.cells [.int .i64 room, .slc 1 0 L.length cap] 57 false, .cells cs 61 mk] K := by
  obtain ⟨ob, hob⟩ : ∃ ob : List A, ob = [.int .u8 (o.toNat : Int)] := ⟨_, rfl⟩
  have hop : Pl ob := by rw [hob]; exact ⟨fun _ => rfl, fun _ => rfl⟩
  have hp := Pl.fls hcs
  have hfl : (L.filter (fun x => !hit o x)).length ≤ L.length := List.length_filter_le _ _
  refine Go.Eng.Fn.weak ?_
  refine Go.Eng.Fn.of 2 (gOf []) rfl Try.func13 rfl (Nat.le_of_ble_eq_true rfl) ?_
  conv => whnf
  repeat' (first
    | rw [← hob]
    | ((with_reducible refine regx_of ?_ ?_); (· decide +kernel); conv => whnf)
    | ((with_reducible refine growx_pre ?_ ?_); (· exact ⟨_, rfl⟩); conv => whnf)
    | ((with_reducible refine needm_of ?_ ?_); (· first | assumption | exact decide_eq_true (by omega) | exact mkOK_of (by decide) | decide +kernel | (refine decide_eq_true ?_; simp (disch := omega) only [i64w]; omega)); conv => whnf)
    | ((with_reducible refine condm_pos ?_ ?_); (· assumption); conv => whnf)
    | ((with_reducible refine condm_neg ?_ ?_); (· assumption); conv => whnf)
    | ((with_reducible refine forceL_fv (by assumption) ?_); conv => whnf)
    | ((with_reducible refine forceL_rfv (by assumption) ?_); conv => whnf)
    | ((with_reducible refine forceNm_of ?_); conv => whnf)
    | ((with_reducible refine needm_of (fv_lenL (by assumption) (by assumption)) ?_); conv => whnf)
    | ((with_reducible refine optm_var (fv_strL (by assumption) (by assumption)) (fun s hs => ?_)); conv => whnf)
    | ((with_reducible refine forceA_of ?_); conv => whnf)
    | ((with_reducible refine forceL_pl (by assumption) ?_); conv => whnf)
    | ((with_reducible refine forceL_rpl (by assumption) ?_); conv => whnf)
    | fail)
  refine Go.Eng.Fn.frame [1, 2] (by rfl) (by exact ⟨ren_pl hp _ _ _, ren_pl hop _ _ _, trivial⟩) (by simp [nodupb, V.okb, A.okb, Ob.okb, hp.2, hop.2] <;> decide) (delete26 o ob hob L y cs cap mk hcs hcap hL (fun y' cs' hcs' hcap' => ?_))
  have hp' := Pl.fls hcs'
  have hk := hK y' cs' hcs' hcap'
  generalize (L.filter (fun x => !hit o x)).length = k at *
  generalize L.length = n at *
  have e1 : IntKind.i64.wrap ((n : Int) - (k : Int)) = ((n - k : Nat) : Int) := by rw [i64w (by omega) (by omega)]; omega
  conv => whnf
  repeat' (first
    | rw [← hob]
    | ((with_reducible refine regx_of ?_ ?_); (· decide +kernel); conv => whnf)
    | ((with_reducible refine growx_pre ?_ ?_); (· exact ⟨_, rfl⟩); conv => whnf)
    | ((with_reducible refine needm_of ?_ ?_); (· first | assumption | exact decide_eq_true (by omega) | exact mkOK_of (by decide) | decide +kernel | (refine decide_eq_true ?_; simp (disch := omega) only [i64w]; omega)); conv => whnf)
    | ((with_reducible refine condm_pos ?_ ?_); (· assumption); conv => whnf)
    | ((with_reducible refine condm_neg ?_ ?_); (· assumption); conv => whnf)
    | ((with_reducible refine forceL_fv (by assumption) ?_); conv => whnf)
    | ((with_reducible refine forceL_rfv (by assumption) ?_); conv => whnf)
    | ((with_reducible refine forceNm_of ?_); conv => whnf)
    | ((with_reducible refine needm_of (fv_lenL (by assumption) (by assumption)) ?_); conv => whnf)
    | ((with_reducible refine optm_var (fv_strL (by assumption) (by assumption)) (fun s hs => ?_)); conv => whnf)
    | ((with_reducible refine forceA_of ?_); conv => whnf)
    | ((with_reducible refine forceL_pl (by assumption) ?_); conv => whnf)
    | ((with_reducible refine forceL_rpl (by assumption) ?_); conv => whnf)
    | fail)
  rw [e1]
  exact keepOf (v₀ := .a (.int .i64 ((n - k : Nat) : Int))) [.cells [.int .i64 room, .slc 1 0 k cap] 57 false, .cells cs' 61 mk] [0, 1] rfl ⟨rfl, ren_pl hp' _ _ _, trivial⟩ (by simp [nodupb, baseb, Ob.okb, frmOk, V.okb, A.okb, hp'.2] <;> decide) hk
end
end Go.Proofs.Ytkggpkgnkppceaa.LK
