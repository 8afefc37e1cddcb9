import Derived.Test.YtkggpkgnkppceaaMB
namespace Go.Proofs.Ytkggpkgnkppceaa.LK
open Go.Eng
set_option maxRecDepth 100000
section
variable {ro : Addr → A → Prop}
set_option maxHeartbeats 400000 in
theorem send28 (room : Nat) (f t : UInt8) (s : ByteArray) (L y : List Fl) (cs : List A) (cap : Nat) (mk : Bool) (hcs : cs = fls (L ++ y)) (hcap : cap = L.length + y.length) (hL : L.length ≤ 1024) {K : V → Hp → Prop}
    (hK0 : (okR f && okR t) = false → K (.a (.int .i64 1)) [.cells [.int .i64 room, .slc 1 0 L.length cap] 47 false, .cells cs 69 mk])
    (hK1 : (okR f && okR t) = true → room ≤ L.length → K (.a (.int .i64 3)) [.cells [.int .i64 room, .slc 1 0 L.length cap] 47 false, .cells cs 69 mk])
    (hK2 : (okR f && okR t) = true → L.length < room → ∀ y cs, cs = fls ((L ++ [⟨f, t, s⟩]) ++ y) → cap = (L ++ [(⟨f, t, s⟩ : Fl)]).length + y.length → K (.a (.int .i64 0)) [.cells [.int .i64 room, .slc 1 0 (L ++ [(⟨f, t, s⟩ : Fl)]).length cap] 47 false, .cells cs 69 mk])
    (hK3 : (okR f && okR t) = true → L.length < room → ∀ y cs' cap', cs' = fls ((L ++ [⟨f, t, s⟩]) ++ y) → cap' = (L ++ [(⟨f, t, s⟩ : Fl)]).length + y.length → K (.a (.int .i64 0)) [.cells [.int .i64 room, .slc 2 0 (L ++ [(⟨f, t, s⟩ : Fl)]).length cap'] 47 false, .cells cs 69 mk, .cells cs' 69 false]) :
    Go.Eng.Fn Try.prog ro 28 [.a (.ptr 0 0), .a (.int .u8 (f.toNat : Int)), .a (.int .u8 (t.toNat : Int)), .a (.str s)] [.cells [.int .i64 room, .slc 1 0 L.length cap] 47 false, .cells cs 69 mk] K := by
  have hp := Pl.fls hcs
  obtain ⟨xr, hxr⟩ : ∃ xr : List A, xr = Fl.row ⟨f, t, s⟩ := ⟨_, rfl⟩
  have hxr' : [.int .u8 (f.toNat : Int), .int .u8 (t.toNat : Int), .str s] = xr := hxr.symm
  have hxp : Pl xr := by rw [hxr]; exact ⟨fun _ => rfl, fun _ => rfl⟩
  have hb : (okR f && okR t) = (decide ((f.toNat : Int) ≥ 1 ∧ (f.toNat : Int) ≤ 5) && decide ((t.toNat : Int) ≥ 1 ∧ (t.toNat : Int) ≤ 5)) := by
    unfold okR
    congr 1 <;> exact decide_eq_decide.2 (by omega)
  refine Go.Eng.Fn.weak ?_
  refine Go.Eng.Fn.of 2 (gOf []) rfl Try.func28 rfl (Nat.le_of_ble_eq_true rfl) ?_
  generalize hF : (f.toNat : Int) = F at *
  generalize hT : (t.toNat : Int) = T at *
  by_cases ho : (okR f && okR t) = true
  · have ho2 := ho
    rw [hb, Bool.and_eq_true, decide_eq_true_eq, decide_eq_true_eq] at ho2
    have d1 : decide (F < 1) = false := decide_eq_false (by omega)
    have d2 : decide (F > 5) = false := decide_eq_false (by omega)
    have d3 : decide (T < 1) = false := decide_eq_false (by omega)
    have d4 : decide (T > 5) = false := decide_eq_false (by omega)
    replace hK1 := hK1 ho
    replace hK2 := hK2 ho
    replace hK3 := hK3 ho
    conv => whnf
    repeat' (first
      | rw [hxr']
      | ((with_reducible refine regx_of ?_ ?_); (· decide +kernel); conv => whnf)
      | ((with_reducible refine growx_pre ?_ ?_); (· exact ⟨_, rfl⟩); conv => whnf)
      | ((with_reducible refine needm_of ?_ ?_); (· first | assumption | exact decide_eq_true (by omega) | exact mkOK_of (by decide) | decide +kernel | (refine decide_eq_true ?_; simp (disch := omega) only [i64w]; omega)); conv => whnf)
      | ((with_reducible refine condm_pos ?_ ?_); (· assumption); conv => whnf)
      | ((with_reducible refine condm_neg ?_ ?_); (· assumption); conv => whnf)
      | ((with_reducible refine forceL_fv (by assumption) ?_); conv => whnf)
      | ((with_reducible refine forceL_rfv (by assumption) ?_); conv => whnf)
      | ((with_reducible refine forceNm_of ?_); conv => whnf)
      | ((with_reducible refine needm_of (fv_lenL (by assumption) (by assumption)) ?_); conv => whnf)
      | ((with_reducible refine optm_var (fv_strL (by assumption) (by assumption)) (fun s hs => ?_)); conv => whnf)
      | ((with_reducible refine forceA_of ?_); conv => whnf)
      | ((with_reducible refine forceL_pl (by assumption) ?_); conv => whnf)
      | ((with_reducible refine forceL_rpl (by assumption) ?_); conv => whnf)
      | fail)
    refine Go.Eng.Fn.frame [0, 1] (by simp [V.ren, hxp.1]; rfl) (by exact ⟨rfl, ren_pl hp _ _ _, trivial⟩) (by simp [nodupb, V.okb, A.okb, Ob.okb, hp.2, hxp.2] <;> decide) (put36 room ⟨f, t, s⟩ xr hxr L y cs cap mk hcs hcap hL (fun h2 => ?_) (fun h2 y cs' hcs' hcap' => ?_) (fun h2 y cs' cap' hcs' hcap' => ?_))
    ·
      conv => whnf
      repeat' (first
        | ((with_reducible refine regx_of ?_ ?_); (· decide +kernel); conv => whnf)
        | ((with_reducible refine growx_pre ?_ ?_); (· exact ⟨_, rfl⟩); conv => whnf)
        | ((with_reducible refine needm_of ?_ ?_); (· first | assumption | exact decide_eq_true (by omega) | exact mkOK_of (by decide) | decide +kernel | (refine decide_eq_true ?_; simp (disch := omega) only [i64w]; omega)); conv => whnf)
        | ((with_reducible refine condm_pos ?_ ?_); (· assumption); conv => whnf)
        | ((with_reducible refine condm_neg ?_ ?_); (· assumption); conv => whnf)
        | ((with_reducible refine forceL_fv (by assumption) ?_); conv => whnf)
        | ((with_reducible refine forceL_rfv (by assumption) ?_); conv => whnf)
        | ((with_reducible refine forceNm_of ?_); conv => whnf)
        | ((with_reducible refine needm_of (fv_lenL (by assumption) (by assumption)) ?_); conv => whnf)
        | ((with_reducible refine optm_var (fv_strL (by assumption) (by assumption)) (fun s hs => ?_)); conv => whnf)
        | ((with_reducible refine forceA_of ?_); conv => whnf)
        | ((with_reducible refine forceL_pl (by assumption) ?_); conv => whnf)
        | ((with_reducible refine forceL_rpl (by assumption) ?_); conv => whnf)
        | fail)
      exact keepOf (v₀ := .a (.int .i64 3)) [.cells [.int .i64 room, .slc 1 0 L.length cap] 47 false, .cells cs 69 mk] [0, 1] rfl ⟨rfl, ren_pl hp _ _ _, trivial⟩ (by simp [nodupb, baseb, Ob.okb, frmOk, V.okb, A.okb, hp.2] <;> decide) (hK1 h2)
    · have hcp' := Pl.fls hcs'
      have hk := hK2 h2 y cs' hcs' hcap'
      generalize (L ++ [(⟨f, t, s⟩ : Fl)]).length = n at *
      conv => whnf
      repeat' (first
        | ((with_reducible refine regx_of ?_ ?_); (· decide +kernel); conv => whnf)
        | ((with_reducible refine growx_pre ?_ ?_); (· exact ⟨_, rfl⟩); conv => whnf)
        | ((with_reducible refine needm_of ?_ ?_); (· first | assumption | exact decide_eq_true (by omega) | exact mkOK_of (by decide) | decide +kernel | (refine decide_eq_true ?_; simp (disch := omega) only [i64w]; omega)); conv => whnf)
        | ((with_reducible refine condm_pos ?_ ?_); (· assumption); conv => whnf)
        | ((with_reducible refine condm_neg ?_ ?_); (· assumption); conv => whnf)
        | ((with_reducible refine forceL_fv (by assumption) ?_); conv => whnf)
        | ((with_reducible refine forceL_rfv (by assumption) ?_); conv => whnf)
        | ((with_reducible refine forceNm_of ?_); conv => whnf)
        | ((with_reducible refine needm_of (fv_lenL (by assumption) (by assumption)) ?_); conv => whnf)
        | ((with_reducible refine optm_var (fv_strL (by assumption) (by assumption)) (fun s hs => ?_)); conv => whnf)
        | ((with_reducible refine forceA_of ?_); conv => whnf)
        | ((with_reducible refine forceL_pl (by assumption) ?_); conv => whnf)
        | ((with_reducible refine forceL_rpl (by assumption) ?_); conv => whnf)
        | fail)
      exact keepOf (v₀ := .a (.int .i64 0)) [.cells [.int .i64 room, .slc 1 0 n cap] 47 false, .cells cs' 69 mk] [0, 1] rfl ⟨rfl, ren_pl hcp' _ _ _, trivial⟩ (by simp [nodupb, baseb, Ob.okb, frmOk, V.okb, A.okb, hcp'.2] <;> decide) hk
    · have hcp' := Pl.fls hcs'
      have hk := hK3 h2 y cs' cap' hcs' hcap'
      generalize (L ++ [(⟨f, t, s⟩ : Fl)]).length = n at *
      conv => whnf
      repeat' (first
        | ((with_reducible refine regx_of ?_ ?_); (· decide +kernel); conv => whnf)
        | ((with_reducible refine growx_pre ?_ ?_); (· exact ⟨_, rfl⟩); conv => whnf)
        | ((with_reducible refine needm_of ?_ ?_); (· first | assumption | exact decide_eq_true (by omega) | exact mkOK_of (by decide) | decide +kernel | (refine decide_eq_true ?_; simp (disch := omega) only [i64w]; omega)); conv => whnf)
        | ((with_reducible refine condm_pos ?_ ?_); (· assumption); conv => whnf)
        | ((with_reducible refine condm_neg ?_ ?_); (· assumption); conv => whnf)
        | ((with_reducible refine forceL_fv (by assumption) ?_); conv => whnf)
        | ((with_reducible refine forceL_rfv (by assumption) ?_); conv => whnf)
        | ((with_reducible refine forceNm_of ?_); conv => whnf)
        | ((with_reducible refine needm_of (fv_lenL (by assumption) (by assumption)) ?_); conv => whnf)
        | ((with_reducible refine optm_var (fv_strL (by assumption) (by assumption)) (fun s hs => ?_)); conv => whnf)
        | ((with_reducible refine forceA_of ?_); conv => whnf)
        | ((with_reducible refine forceL_pl (by assumption) ?_); conv => whnf)
        | ((with_reducible refine forceL_rpl (by assumption) ?_); conv => whnf)
        | fail)
      exact keepOf (v₀ := .a (.int .i64 0)) [.cells [.int .i64 room, .slc 2 0 n cap'] 47 false, .cells cs 69 mk, .cells cs' 69 false] [0, 1, 2] rfl ⟨rfl, ren_pl hp _ _ _, ren_pl hcp' _ _ _, trivial⟩ (by simp [nodupb, baseb, Ob.okb, frmOk, V.okb, A.okb, hp.2, hcp'.2] <;> decide) hk
  · have ho2 := ho
    rw [hb, Bool.and_eq_true, decide_eq_true_eq, decide_eq_true_eq] at ho2
    replace hK0 := hK0 (by simpa using ho)
    conv => whnf
    repeat' (first
      | ((with_reducible refine regx_of ?_ ?_); (· decide +kernel); conv => whnf)
      | ((with_reducible refine growx_pre ?_ ?_); (· exact ⟨_, rfl⟩); conv => whnf)
      | ((with_reducible refine needm_of ?_ ?_); (· first | assumption | exact decide_eq_true (by omega) | exact mkOK_of (by decide) | decide +kernel | (refine decide_eq_true ?_; simp (disch := omega) only [i64w]; omega)); conv => whnf)
      | ((with_reducible refine condm_pos ?_ ?_); (· assumption); conv => whnf)
      | ((with_reducible refine condm_neg ?_ ?_); (· assumption); conv => whnf)
      | ((with_reducible refine forceL_fv (by assumption) ?_); conv => whnf)
      | ((with_reducible refine forceL_rfv (by assumption) ?_); conv => whnf)
      | ((with_reducible refine forceNm_of ?_); conv => whnf)
      | ((with_reducible refine needm_of (fv_lenL (by assumption) (by assumption)) ?_); conv => whnf)
      | ((with_reducible refine optm_var (fv_strL (by assumption) (by assumption)) (fun s hs => ?_)); conv => whnf)
      | ((with_reducible refine forceA_of ?_); conv => whnf)
      | ((with_reducible refine forceL_pl (by assumption) ?_); conv => whnf)
      | ((with_reducible refine forceL_rpl (by assumption) ?_); conv => whnf)
      | fail)
    by_cases d1 : F < 1
    · have e1 : decide (F < 1) = true := decide_eq_true d1
      conv => whnf
      repeat' (first
        | ((with_reducible refine regx_of ?_ ?_); (· decide +kernel); conv => whnf)
        | ((with_reducible refine growx_pre ?_ ?_); (· exact ⟨_, rfl⟩); conv => whnf)
        | ((with_reducible refine needm_of ?_ ?_); (· first | assumption | exact decide_eq_true (by omega) | exact mkOK_of (by decide) | decide +kernel | (refine decide_eq_true ?_; simp (disch := omega) only [i64w]; omega)); conv => whnf)
        | ((with_reducible refine condm_pos ?_ ?_); (· assumption); conv => whnf)
        | ((with_reducible refine condm_neg ?_ ?_); (· assumption); conv => whnf)
        | ((with_reducible refine forceL_fv (by assumption) ?_); conv => whnf)
        | ((with_reducible refine forceL_rfv (by assumption) ?_); conv => whnf)
        | ((with_reducible refine forceNm_of ?_); conv => whnf)
        | ((with_reducible refine needm_of (fv_lenL (by assumption) (by assumption)) ?_); conv => whnf)
        | ((with_reducible refine optm_var (fv_strL (by assumption) (by assumption)) (fun s hs => ?_)); conv => whnf)
        | ((with_reducible refine forceA_of ?_); conv => whnf)
        | ((with_reducible refine forceL_pl (by assumption) ?_); conv => whnf)
        | ((with_reducible refine forceL_rpl (by assumption) ?_); conv => whnf)
        | fail)
      exact keepOf (v₀ := .a (.int .i64 1)) [.cells [.int .i64 room, .slc 1 0 L.length cap] 47 false, .cells cs 69 mk] [0, 1] rfl ⟨rfl, ren_pl hp _ _ _, trivial⟩ (by simp [nodupb, baseb, Ob.okb, frmOk, V.okb, A.okb, hp.2] <;> decide) hK0
    · have e1 : decide (F < 1) = false := decide_eq_false d1
      by_cases d2 : F > 5
      · have e2 : decide (F > 5) = true := decide_eq_true d2
        conv => whnf
        repeat' (first
          | ((with_reducible refine regx_of ?_ ?_); (· decide +kernel); conv => whnf)
          | ((with_reducible refine growx_pre ?_ ?_); (· exact ⟨_, rfl⟩); conv => whnf)
          | ((with_reducible refine needm_of ?_ ?_); (· first | assumption | exact decide_eq_true (by omega) | exact mkOK_of (by decide) | decide +kernel | (refine decide_eq_true ?_; simp (disch := omega) only [i64w]; omega)); conv => whnf)
          | ((with_reducible refine condm_pos ?_ ?_); (· assumption); conv => whnf)
          | ((with_reducible refine condm_neg ?_ ?_); (· assumption); conv => whnf)
          | ((with_reducible refine forceL_fv (by assumption) ?_); conv => whnf)
          | ((with_reducible refine forceL_rfv (by assumption) ?_); conv => whnf)
          | ((with_reducible refine forceNm_of ?_); conv => whnf)
          | ((with_reducible refine needm_of (fv_lenL (by assumption) (by assumption)) ?_); conv => whnf)
          | ((with_reducible refine optm_var (fv_strL (by assumption) (by assumption)) (fun s hs => ?_)); conv => whnf)
          | ((with_reducible refine forceA_of ?_); conv => whnf)
          | ((with_reducible refine forceL_pl (by assumption) ?_); conv => whnf)
          | ((with_reducible refine forceL_rpl (by assumption) ?_); conv => whnf)
          | fail)
        exact keepOf (v₀ := .a (.int .i64 1)) [.cells [.int .i64 room, .slc 1 0 L.length cap] 47 false, .cells cs 69 mk] [0, 1] rfl ⟨rfl, ren_pl hp _ _ _, trivial⟩ (by simp [nodupb, baseb, Ob.okb, frmOk, V.okb, A.okb, hp.2] <;> decide) hK0
      · have e2 : decide (F > 5) = false := decide_eq_false d2
        by_cases d3 : T < 1
        · have e3 : decide (T < 1) = true := decide_eq_true d3
          conv => whnf
          repeat' (first
            | ((with_reducible refine regx_of ?_ ?_); (· decide +kernel); conv => whnf)
            | ((with_reducible refine growx_pre ?_ ?_); (· exact ⟨_, rfl⟩); conv => whnf)
            | ((with_reducible refine needm_of ?_ ?_); (· first | assumption | exact decide_eq_true (by omega) | exact mkOK_of (by decide) | decide +kernel | (refine decide_eq_true ?_; simp (disch := omega) only [i64w]; omega)); conv => whnf)
            | ((with_reducible refine condm_pos ?_ ?_); (· assumption); conv => whnf)
            | ((with_reducible refine condm_neg ?_ ?_); (· assumption); conv => whnf)
            | ((with_reducible refine forceL_fv (by assumption) ?_); conv => whnf)
            | ((with_reducible refine forceL_rfv (by assumption) ?_); conv => whnf)
            | ((with_reducible refine forceNm_of ?_); conv => whnf)
            | ((with_reducible refine needm_of (fv_lenL (by assumption) (by assumption)) ?_); conv => whnf)
            | ((with_reducible refine optm_var (fv_strL (by assumption) (by assumption)) (fun s hs => ?_)); conv => whnf)
            | ((with_reducible refine forceA_of ?_); conv => whnf)
            | ((with_reducible refine forceL_pl (by assumption) ?_); conv => whnf)
            | ((with_reducible refine forceL_rpl (by assumption) ?_); conv => whnf)
            | fail)
          exact keepOf (v₀ := .a (.int .i64 1)) [.cells [.int .i64 room, .slc 1 0 L.length cap] 47 false, .cells cs 69 mk] [0, 1] rfl ⟨rfl, ren_pl hp _ _ _, trivial⟩ (by simp [nodupb, baseb, Ob.okb, frmOk, V.okb, A.okb, hp.2] <;> decide) hK0
        · have e3 : decide (T < 1) = false := decide_eq_false d3
          have e4 : decide (T > 5) = true := decide_eq_true (by omega)
          conv => whnf
          repeat' (first
            | ((with_reducible refine regx_of ?_ ?_); (· decide +kernel); conv => whnf)
            | ((with_reducible refine growx_pre ?_ ?_); (· exact ⟨_, rfl⟩); conv => whnf)
            | ((with_reducible refine needm_of ?_ ?_); (· first | assumption | exact decide_eq_true (by omega) | exact mkOK_of (by decide) | decide +kernel | (refine decide_eq_true ?_; simp (disch := omega) only [i64w]; omega)); conv => whnf)
            | ((with_reducible refine condm_pos ?_ ?_); (· assumption); conv => whnf)
            | ((with_reducible refine condm_neg ?_ ?_); (· assumption); conv => whnf)
            | ((with_reducible refine forceL_fv (by assumption) ?_); conv => whnf)
            | ((with_reducible refine forceL_rfv (by assumption) ?_); conv => whnf)
            | ((with_reducible refine forceNm_of ?_); conv => whnf)
            | ((with_reducible refine needm_of (fv_lenL (by assumption) (by assumption)) ?_); conv => whnf)
            | ((with_reducible refine optm_var (fv_strL (by assumption) (by assumption)) (fun s hs => ?_)); conv => whnf)
            | ((with_reducible refine forceA_of ?_); conv => whnf)
            | ((with_reducible refine forceL_pl (by assumption) ?_); conv => whnf)
            | ((with_reducible refine forceL_rpl (by assumption) ?_); conv => whnf)
            | fail)
          exact keepOf (v₀ := .a (.int .i64 1)) [.cells [.int .i64 room, .slc 1 0 L.length cap] 47 false, .cells cs 69 mk] [0, 1] rfl ⟨rfl, ren_pl hp _ _ _, trivial⟩ (by simp [nodupb, baseb, Ob.okb, frmOk, V.okb, A.okb, hp.2] <;> decide) hK0
set_option maxHeartbeats 400000 in
theorem told30 (x : Fl) (xr : List A) (hxr : xr = x.row) (e : Int) {K : V → Hp → Prop} (hK : K (.a (.bool true)) []) :
    Go.Eng.Fn Try.prog ro 30 [.a (.int .u8 (x.f.toNat : Int)), .a (.int .u8 (x.t.toNat : Int)), .a (.str x.s), .a (.int .i64 e), .g xr, .a (.int .i64 e)] [] K := by
  have hxp : Pl xr := by rw [hxr]; exact ⟨fun _ => rfl, fun _ => rfl⟩
  have hxl : xr.length = 3 := by rw [hxr]; rfl
  have hw : List.drop 0 (List.take (0 + Try.prog.types[69].size) xr) = [.int .u8 (x.f.toNat : Int), .int .u8 (x.t.toNat : Int), .str x.s] := by rw [whole_of (by rw [hxl]; rfl), hxr]; rfl
  refine Go.Eng.Fn.weak ?_
  refine Go.Eng.Fn.of_code (gOf []) Try.func30 rfl (Nat.le_of_ble_eq_true rfl) ?_
  have c1 : (e == e) = true := by simp
  conv => whnf
  repeat' (first
    | ((with_reducible refine regx_of ?_ ?_); (· decide +kernel); conv => whnf)
    | ((with_reducible refine growx_pre ?_ ?_); (· exact ⟨_, rfl⟩); conv => whnf)
    | ((with_reducible refine needm_of ?_ ?_); (· first | assumption | exact decide_eq_true (by omega) | exact mkOK_of (by decide) | decide +kernel | (refine decide_eq_true ?_; simp (disch := omega) only [i64w]; omega)); conv => whnf)
    | ((with_reducible refine condm_pos ?_ ?_); (· assumption); conv => whnf)
    | ((with_reducible refine condm_neg ?_ ?_); (· assumption); conv => whnf)
    | ((with_reducible refine forceL_fv (by assumption) ?_); conv => whnf)
    | ((with_reducible refine forceL_rfv (by assumption) ?_); conv => whnf)
    | ((with_reducible refine forceNm_of ?_); conv => whnf)
    | ((with_reducible refine needm_of (fv_lenL (by assumption) (by assumption)) ?_); conv => whnf)
    | ((with_reducible refine optm_var (fv_strL (by assumption) (by assumption)) (fun s hs => ?_)); conv => whnf)
    | ((with_reducible refine forceA_of ?_); conv => whnf)
    | ((with_reducible refine forceL_pl (by assumption) ?_); conv => whnf)
    | ((with_reducible refine forceL_rpl (by assumption) ?_); conv => whnf)
    | fail)
  refine needm_of (by rw [hxl]; rfl) ?_
  conv => whnf
  refine forceL_to hw ?_
  conv => whnf
  repeat' (first
    | ((with_reducible refine regx_of ?_ ?_); (· decide +kernel); conv => whnf)
    | ((with_reducible refine growx_pre ?_ ?_); (· exact ⟨_, rfl⟩); conv => whnf)
    | ((with_reducible refine needm_of ?_ ?_); (· first | assumption | exact decide_eq_true (by omega) | exact mkOK_of (by decide) | decide +kernel | (refine decide_eq_true ?_; simp (disch := omega) only [i64w]; omega)); conv => whnf)
    | ((with_reducible refine condm_pos ?_ ?_); (· assumption); conv => whnf)
    | ((with_reducible refine condm_neg ?_ ?_); (· assumption); conv => whnf)
    | ((with_reducible refine forceL_fv (by assumption) ?_); conv => whnf)
    | ((with_reducible refine forceL_rfv (by assumption) ?_); conv => whnf)
    | ((with_reducible refine forceNm_of ?_); conv => whnf)
    | ((with_reducible refine needm_of (fv_lenL (by assumption) (by assumption)) ?_); conv => whnf)
    | ((with_reducible refine optm_var (fv_strL (by assumption) (by assumption)) (fun s hs => ?_)); conv => whnf)
    | ((with_reducible refine forceA_of ?_); conv => whnf)
    | ((with_reducible refine forceL_pl (by assumption) ?_); conv => whnf)
    | ((with_reducible refine forceL_rpl (by assumption) ?_); conv => whnf)
    | fail)
  refine ⟨true, EqAgg.of (by show some (decide (_ = _) && (decide (_ = _) && ((_ == _) && true))) = some true; simp), ?_⟩
  conv => whnf
  repeat' (first
    | ((with_reducible refine regx_of ?_ ?_); (· decide +kernel); conv => whnf)
    | ((with_reducible refine growx_pre ?_ ?_); (· exact ⟨_, rfl⟩); conv => whnf)
    | ((with_reducible refine needm_of ?_ ?_); (· first | assumption | exact decide_eq_true (by omega) | exact mkOK_of (by decide) | decide +kernel | (refine decide_eq_true ?_; simp (disch := omega) only [i64w]; omega)); conv => whnf)
    | ((with_reducible refine condm_pos ?_ ?_); (· assumption); conv => whnf)
    | ((with_reducible refine condm_neg ?_ ?_); (· assumption); conv => whnf)
    | ((with_reducible refine forceL_fv (by assumption) ?_); conv => whnf)
    | ((with_reducible refine forceL_rfv (by assumption) ?_); conv => whnf)
    | ((with_reducible refine forceNm_of ?_); conv => whnf)
    | ((with_reducible refine needm_of (fv_lenL (by assumption) (by assumption)) ?_); conv => whnf)
    | ((with_reducible refine optm_var (fv_strL (by assumption) (by assumption)) (fun s hs => ?_)); conv => whnf)
    | ((with_reducible refine forceA_of ?_); conv => whnf)
    | ((with_reducible refine forceL_pl (by assumption) ?_); conv => whnf)
    | ((with_reducible refine forceL_rpl (by assumption) ?_); conv => whnf)
    | fail)
  exact keepOf (v₀ := .a (.bool true)) [] [] rfl trivial rfl hK
end
end Go.Proofs.Ytkggpkgnkppceaa.LK
