import Derived.Test.YtkggpkgnkppceaaMA
namespace Go.Proofs.Ytkggpkgnkppceaa.LK
open Go.Eng
set_option maxRecDepth 100000
section
variable {ro : Addr → A → Prop}
set_option maxHeartbeats 400000 in
theorem there37 (room i : Int) (len cap : Nat) (cs : List A) (hp : Pl cs) (mk : Bool) {K : V → Hp → Prop} (hK : ∀ b : Bool, b = decide (0 ≤ i ∧ i < len) → K (.a (.bool b)) [.cells [.int .i64 room, .slc 1 0 len cap] 47 false, .cells cs 69 mk]) :
    Go.Eng.Fn Try.prog ro 37 [.a (.ptr 0 0), .a (.int .i64 i)] [.cells [.int .i64 room, .slc 1 0 len cap] 47 false, .cells cs 69 mk] K := by
  refine Go.Eng.Fn.weak ?_
  refine Go.Eng.Fn.of 2 (gOf []) rfl Try.func37 rfl (Nat.le_of_ble_eq_true rfl) ?_
  by_cases h1 : i ≥ 0
  · have c1 : decide (i ≥ 0) = true := decide_eq_true h1
    conv => whnf
    repeat' (first
      | ((with_reducible refine regx_of ?_ ?_); (· decide +kernel); conv => whnf)
      | ((with_reducible refine growx_pre ?_ ?_); (· exact ⟨_, rfl⟩); conv => whnf)
      | ((with_reducible refine needm_of ?_ ?_); (· first | assumption | exact decide_eq_true (by omega) | exact mkOK_of (by decide) | decide +kernel | (refine decide_eq_true ?_; simp (disch := omega) only [i64w]; omega)); conv => whnf)
      | ((with_reducible refine condm_pos ?_ ?_); (· assumption); conv => whnf)
      | ((with_reducible refine condm_neg ?_ ?_); (· assumption); conv => whnf)
      | ((with_reducible refine forceL_fv (by assumption) ?_); conv => whnf)
      | ((with_reducible refine forceL_rfv (by assumption) ?_); conv => whnf)
      | ((with_reducible refine forceNm_of ?_); conv => whnf)
      | ((with_reducible refine needm_of (fv_lenL (by assumption) (by assumption)) ?_); conv => whnf)
      | ((with_reducible refine optm_var (fv_strL (by assumption) (by assumption)) (fun s hs => ?_)); conv => whnf)
      | ((with_reducible refine forceA_of ?_); conv => whnf)
      | ((with_reducible refine forceL_pl (by assumption) ?_); conv => whnf)
      | ((with_reducible refine forceL_rpl (by assumption) ?_); conv => whnf)
      | fail)
    exact keepOf (v₀ := .a (.bool (decide (i < (len : Int))))) [.cells [.int .i64 room, .slc 1 0 len cap] 47 false, .cells cs 69 mk] [0, 1] rfl ⟨rfl, ren_pl hp _ _ _, trivial⟩ (by simp [nodupb, baseb, Ob.okb, frmOk, V.okb, A.okb, hp.2] <;> decide) (hK _ (decide_eq_decide.2 (by omega)))
  · have c1 : decide (i ≥ 0) = false := decide_eq_false h1
    conv => whnf
    repeat' (first
      | ((with_reducible refine regx_of ?_ ?_); (· decide +kernel); conv => whnf)
      | ((with_reducible refine growx_pre ?_ ?_); (· exact ⟨_, rfl⟩); conv => whnf)
      | ((with_reducible refine needm_of ?_ ?_); (· first | assumption | exact decide_eq_true (by omega) | exact mkOK_of (by decide) | decide +kernel | (refine decide_eq_true ?_; simp (disch := omega) only [i64w]; omega)); conv => whnf)
      | ((with_reducible refine condm_pos ?_ ?_); (· assumption); conv => whnf)
      | ((with_reducible refine condm_neg ?_ ?_); (· assumption); conv => whnf)
      | ((with_reducible refine forceL_fv (by assumption) ?_); conv => whnf)
      | ((with_reducible refine forceL_rfv (by assumption) ?_); conv => whnf)
      | ((with_reducible refine forceNm_of ?_); conv => whnf)
      | ((with_reducible refine needm_of (fv_lenL (by assumption) (by assumption)) ?_); conv => whnf)
      | ((with_reducible refine optm_var (fv_strL (by assumption) (by assumption)) (fun s hs => ?_)); conv => whnf)
      | ((with_reducible refine forceA_of ?_); conv => whnf)
      | ((with_reducible refine forceL_pl (by assumption) ?_); conv => whnf)
      | ((with_reducible refine forceL_rpl (by assumption) ?_); conv => whnf)
      | fail)
    exact keepOf (v₀ := .a (.bool false)) [.cells [.int .i64 room, .slc 1 0 len cap] 47 false, .cells cs 69 mk] [0, 1] rfl ⟨rfl, ren_pl hp _ _ _, trivial⟩ (by simp [nodupb, baseb, Ob.okb, frmOk, V.okb, A.okb, hp.2] <;> decide) (hK _ (decide_eq_false (by omega)).symm)
set_option maxHeartbeats 400000 in
theorem look29 (room i : Int) (len cap : Nat) (cs : List A) (L : List Fl) (hcs : cs = fls L) (hlen : len ≤ L.length) (mk : Bool) {K : V → Hp → Prop}
    (hK1 : ¬ (0 ≤ i ∧ i < len) → ∀ xr, xr = z0.row → K (.t [.g xr, .a (.int .i64 220)]) [.cells [.int .i64 room, .slc 1 0 len cap] 47 false, .cells cs 69 mk])
    (hK2 : ∀ x, L[i.toNat]? = some x → (0 ≤ i ∧ i < len) → ∀ xr, xr = x.row → K (.t [.g xr, .a (.int .i64 0)]) [.cells [.int .i64 room, .slc 1 0 len cap] 47 false, .cells cs 69 mk]) :
    Go.Eng.Fn Try.prog ro 29 [.a (.ptr 0 0), .a (.int .i64 i)] [.cells [.int .i64 room, .slc 1 0 len cap] 47 false, .cells cs 69 mk] K := by
  have hp := Pl.fls hcs
  obtain ⟨z3, hz3⟩ : ∃ z : List A, z = [.int .u8 0, .int .u8 0, .str { data := #[] }] := ⟨_, rfl⟩
  have hzp : Pl z3 := by rw [hz3]; exact ⟨fun _ => rfl, fun _ => rfl⟩
  have hzl : z3.length = 3 := by rw [hz3]; rfl
  have hrz : repl z3 (1 * Try.prog.types[69].size) = z3 := by rw [hz3]; rfl
  refine Go.Eng.Fn.weak ?_
  refine Go.Eng.Fn.of 2 (gOf []) rfl Try.func29 rfl (Nat.le_of_ble_eq_true rfl) ?_
  conv => whnf
  repeat' (first
    | rw [← hz3]
    | ((with_reducible refine regx_of ?_ ?_); (· decide +kernel); conv => whnf)
    | ((with_reducible refine growx_pre ?_ ?_); (· exact ⟨_, rfl⟩); conv => whnf)
    | ((with_reducible refine needm_of ?_ ?_); (· first | assumption | exact decide_eq_true (by omega) | exact mkOK_of (by decide) | decide +kernel | (refine decide_eq_true ?_; simp (disch := omega) only [i64w]; omega)); conv => whnf)
    | ((with_reducible refine condm_pos ?_ ?_); (· assumption); conv => whnf)
    | ((with_reducible refine condm_neg ?_ ?_); (· assumption); conv => whnf)
    | ((with_reducible refine forceL_fv (by assumption) ?_); conv => whnf)
    | ((with_reducible refine forceL_rfv (by assumption) ?_); conv => whnf)
    | ((with_reducible refine forceNm_of ?_); conv => whnf)
    | ((with_reducible refine needm_of (fv_lenL (by assumption) (by assumption)) ?_); conv => whnf)
    | ((with_reducible refine optm_var (fv_strL (by assumption) (by assumption)) (fun s hs => ?_)); conv => whnf)
    | ((with_reducible refine forceA_of ?_); conv => whnf)
    | ((with_reducible refine forceL_pl (by assumption) ?_); conv => whnf)
    | ((with_reducible refine forceL_rpl (by assumption) ?_); conv => whnf)
    | fail)
  refine Go.Eng.Fn.frame [0, 1] (by rfl) (by exact ⟨rfl, ren_pl hp _ _ _, trivial⟩) (by simp [nodupb, V.okb, A.okb, Ob.okb, hp.2] <;> decide) (there37 room i len cap cs hp mk (fun b hb => ?_))
  by_cases h : 0 ≤ i ∧ i < len
  · obtain rfl : b = true := by rw [hb]; exact decide_eq_true h
    clear hb
    have hi : i.toNat < L.length := by omega
    have hx : L[i.toNat]? = some L[i.toNat] := List.getElem?_eq_getElem hi
    have hr := fls_at hcs hx (o := 0 + i.toNat * Try.prog.types[69].size) (m := 0 + i.toNat * Try.prog.types[69].size + Try.prog.types[69].size) (by rw [s69]; omega) (by rw [s69]; omega)
    have hcl : cs.length = L.length * 3 := by rw [hcs, fls_length]
    generalize L[i.toNat] = x at *
    have hb1 : decide (0 ≤ i ∧ i < (len : Int)) = true := decide_eq_true h
    have hk := hK2 x hx h
    obtain ⟨xr, hxr⟩ : ∃ xr, xr = x.row := ⟨_, rfl⟩
    rw [← hxr] at hr
    have hxp : Pl xr := by rw [hxr]; exact ⟨fun _ => rfl, fun _ => rfl⟩
    have hxl : xr.length = 3 := by rw [hxr]; rfl
    conv => whnf
    repeat' (first
      | rw [← hz3]
      | rw [hrz]
      | rw [Nat.zero_mul Try.prog.types[69].size]
      | ((with_reducible refine regx_of ?_ ?_); (· decide +kernel); conv => whnf)
      | ((with_reducible refine growx_pre ?_ ?_); (· exact ⟨_, rfl⟩); conv => whnf)
      | ((with_reducible refine needm_of ?_ ?_); (· first | assumption | exact decide_eq_true (by omega) | exact mkOK_of (by decide) | decide +kernel | (refine decide_eq_true ?_; simp (disch := omega) only [i64w]; omega)); conv => whnf)
      | ((with_reducible refine condm_pos ?_ ?_); (· assumption); conv => whnf)
      | ((with_reducible refine condm_neg ?_ ?_); (· assumption); conv => whnf)
      | ((with_reducible refine forceL_fv (by assumption) ?_); conv => whnf)
      | ((with_reducible refine forceL_rfv (by assumption) ?_); conv => whnf)
      | ((with_reducible refine forceNm_of ?_); conv => whnf)
      | ((with_reducible refine needm_of (fv_lenL (by assumption) (by assumption)) ?_); conv => whnf)
      | ((with_reducible refine optm_var (fv_strL (by assumption) (by assumption)) (fun s hs => ?_)); conv => whnf)
      | ((with_reducible refine forceA_of ?_); conv => whnf)
      | ((with_reducible refine forceL_pl (by assumption) ?_); conv => whnf)
      | ((with_reducible refine forceL_rpl (by assumption) ?_); conv => whnf)
      | ((with_reducible refine needm_of ?_ ?_); (· first | (rw [hxl, hzl]; rfl) | (rw [hxl]; rfl)); conv => whnf)
      | ((with_reducible refine forceL_to (whole_of ?_) ?_); (· rw [hxl]; rfl); conv => whnf)
      | ((with_reducible refine forceL_to (store_all ?_) ?_); (· first | rw [hxl, hzl] | rfl); conv => whnf)
      | fail)
    refine needm_of (decide_eq_true (by rw [hcl, s69]; omega)) ?_
    conv => whnf
    refine forceL_to hr ?_
    conv => whnf
    repeat' (first
      | rw [← hz3]
      | rw [hrz]
      | rw [Nat.zero_mul Try.prog.types[69].size]
      | ((with_reducible refine regx_of ?_ ?_); (· decide +kernel); conv => whnf)
      | ((with_reducible refine growx_pre ?_ ?_); (· exact ⟨_, rfl⟩); conv => whnf)
      | ((with_reducible refine needm_of ?_ ?_); (· first | assumption | exact decide_eq_true (by omega) | exact mkOK_of (by decide) | decide +kernel | (refine decide_eq_true ?_; simp (disch := omega) only [i64w]; omega)); conv => whnf)
      | ((with_reducible refine condm_pos ?_ ?_); (· assumption); conv => whnf)
      | ((with_reducible refine condm_neg ?_ ?_); (· assumption); conv => whnf)
      | ((with_reducible refine forceL_fv (by assumption) ?_); conv => whnf)
      | ((with_reducible refine forceL_rfv (by assumption) ?_); conv => whnf)
      | ((with_reducible refine forceNm_of ?_); conv => whnf)
      | ((with_reducible refine needm_of (fv_lenL (by assumption) (by assumption)) ?_); conv => whnf)
      | ((with_reducible refine optm_var (fv_strL (by assumption) (by assumption)) (fun s hs => ?_)); conv => whnf)
      | ((with_reducible refine forceA_of ?_); conv => whnf)
      | ((with_reducible refine forceL_pl (by assumption) ?_); conv => whnf)
      | ((with_reducible refine forceL_rpl (by assumption) ?_); conv => whnf)
      | ((with_reducible refine needm_of ?_ ?_); (· first | (rw [hxl, hzl]; rfl) | (rw [hxl]; rfl)); conv => whnf)
      | ((with_reducible refine forceL_to (whole_of ?_) ?_); (· rw [hxl]; rfl); conv => whnf)
      | ((with_reducible refine forceL_to (store_all ?_) ?_); (· first | rw [hxl, hzl] | rfl); conv => whnf)
      | fail)
    exact keepOf (v₀ := .t [.g xr, .a (.int .i64 0)]) [.cells [.int .i64 room, .slc 1 0 len cap] 47 false, .cells cs 69 mk] [0, 1] (by rw [List.take_of_length_le (by rw [hxl]; exact Nat.le_refl 3)]; show V.t [E.g xr, _] = V.t [E.g (xr.map _), _]; rw [hxp.1]; rfl) ⟨rfl, ren_pl hp _ _ _, trivial⟩ (by simp [nodupb, baseb, Ob.okb, frmOk, V.okb, E.okb, A.okb, hp.2, hxp.2] <;> decide) (hk xr hxr)
  · obtain rfl : b = false := by rw [hb]; exact decide_eq_false h
    clear hb
    have hxl : z3.length = 3 := hzl
    conv => whnf
    repeat' (first
      | rw [← hz3]
      | rw [hrz]
      | rw [Nat.zero_mul Try.prog.types[69].size]
      | ((with_reducible refine regx_of ?_ ?_); (· decide +kernel); conv => whnf)
      | ((with_reducible refine growx_pre ?_ ?_); (· exact ⟨_, rfl⟩); conv => whnf)
      | ((with_reducible refine needm_of ?_ ?_); (· first | assumption | exact decide_eq_true (by omega) | exact mkOK_of (by decide) | decide +kernel | (refine decide_eq_true ?_; simp (disch := omega) only [i64w]; omega)); conv => whnf)
      | ((with_reducible refine condm_pos ?_ ?_); (· assumption); conv => whnf)
      | ((with_reducible refine condm_neg ?_ ?_); (· assumption); conv => whnf)
      | ((with_reducible refine forceL_fv (by assumption) ?_); conv => whnf)
      | ((with_reducible refine forceL_rfv (by assumption) ?_); conv => whnf)
      | ((with_reducible refine forceNm_of ?_); conv => whnf)
      | ((with_reducible refine needm_of (fv_lenL (by assumption) (by assumption)) ?_); conv => whnf)
      | ((with_reducible refine optm_var (fv_strL (by assumption) (by assumption)) (fun s hs => ?_)); conv => whnf)
      | ((with_reducible refine forceA_of ?_); conv => whnf)
      | ((with_reducible refine forceL_pl (by assumption) ?_); conv => whnf)
      | ((with_reducible refine forceL_rpl (by assumption) ?_); conv => whnf)
      | ((with_reducible refine needm_of ?_ ?_); (· first | (rw [hxl, hzl]; rfl) | (rw [hxl]; rfl)); conv => whnf)
      | ((with_reducible refine forceL_to (whole_of ?_) ?_); (· rw [hxl]; rfl); conv => whnf)
      | ((with_reducible refine forceL_to (store_all ?_) ?_); (· first | rw [hxl, hzl] | rfl); conv => whnf)
      | fail)
    exact keepOf (v₀ := .t [.g z3, .a (.int .i64 220)]) [.cells [.int .i64 room, .slc 1 0 len cap] 47 false, .cells cs 69 mk] [0, 1] (by rw [List.take_of_length_le (by rw [hzl]; exact Nat.le_refl 3)]; show V.t [E.g z3, _] = V.t [E.g (z3.map _), _]; rw [hzp.1]; rfl) ⟨rfl, ren_pl hp _ _ _, trivial⟩ (by simp [nodupb, baseb, Ob.okb, frmOk, V.okb, E.okb, A.okb, hp.2, hzp.2] <;> decide) (hK1 h z3 hz3)
end
end Go.Proofs.Ytkggpkgnkppceaa.LK
