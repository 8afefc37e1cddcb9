import Derived.Test.YtkggpkgnkppceaaLU
import Derived.Test.YtkggpkgnkppceaaMT
namespace Go.Proofs.Ytkggpkgnkppceaa.LK
open Go.Eng
set_option maxRecDepth 100000
theorem s69 : Try.prog.types[69].size = 3 := rfl
theorem b69 : Try.prog.types[69].bytes = 24 := rfl
section
variable {ro : Addr → A → Prop}
set_option maxHeartbeats 400000 in
theorem new8g (room : Nat) (h1 : 1 ≤ room) (h2 : room ≤ 1024) {K : V → Hp → Prop} (hK : K (.t [.a (.ptr 0 0), .a (.int .i64 0)]) [.cells [.int .i64 room, .slc 1 0 0 0] 57 false, .cells [] 61 false]) : Go.Eng.Fn Try.prog ro 8 [.a (.int .i64 (room : Int))] [] K := by
  refine Fn.ghost ?_
  exact new8 room h1 h2 ⟨1, .t [.a (.ptr 0 0), .a (.int .i64 0)], [.cells [.int .i64 room, .slc 1 0 0 0] 57 false, .cells [] 61 false], rfl, rfl, ⟨rfl, rfl, trivial⟩, rfl, hK⟩
set_option maxHeartbeats 400000 in
theorem new8e (room : Int) (h : ¬ (1 ≤ room ∧ room ≤ 1024)) {K : V → Hp → Prop} (hK : K (.t [.a .nilp, .a (.int .i64 1)]) []) : Go.Eng.Fn Try.prog ro 8 [.a (.int .i64 room)] [] K := by
  refine Go.Eng.Fn.weak ?_
  refine Go.Eng.Fn.of_code (gOf []) Try.func8 rfl (Nat.le_of_ble_eq_true rfl) ?_
  by_cases h1 : room < 1
  · have c1 : decide (room < 1) = true := decide_eq_true h1
    conv => whnf
    repeat' (first
      | ((with_reducible refine regx_of ?_ ?_); (· decide +kernel); conv => whnf)
      | ((with_reducible refine growx_pre ?_ ?_); (· exact ⟨_, rfl⟩); conv => whnf)
      | ((with_reducible refine needm_of ?_ ?_); (· first | assumption | exact decide_eq_true (by omega) | exact mkOK_of (by decide) | decide +kernel | (refine decide_eq_true ?_; simp (disch := omega) only [i64w]; omega)); conv => whnf)
      | ((with_reducible refine condm_pos ?_ ?_); (· assumption); conv => whnf)
      | ((with_reducible refine condm_neg ?_ ?_); (· assumption); conv => whnf)
      | ((with_reducible refine forceL_fv (by assumption) ?_); conv => whnf)
      | ((with_reducible refine forceL_rfv (by assumption) ?_); conv => whnf)
      | ((with_reducible refine forceNm_of ?_); conv => whnf)
      | ((with_reducible refine needm_of (fv_lenL (by assumption) (by assumption)) ?_); conv => whnf)
      | ((with_reducible refine optm_var (fv_strL (by assumption) (by assumption)) (fun s hs => ?_)); conv => whnf)
      | ((with_reducible refine forceA_of ?_); conv => whnf)
      | ((with_reducible refine forceL_pl (by assumption) ?_); conv => whnf)
      | ((with_reducible refine forceL_rpl (by assumption) ?_); conv => whnf)
      | fail)
    exact keepOf (v₀ := .t [.a .nilp, .a (.int .i64 1)]) [] [] rfl trivial rfl hK
  · have c1 : decide (room < 1) = false := decide_eq_false h1
    have c2 : decide (room > 1024) = true := decide_eq_true (by omega)
    conv => whnf
    repeat' (first
      | ((with_reducible refine regx_of ?_ ?_); (· decide +kernel); conv => whnf)
      | ((with_reducible refine growx_pre ?_ ?_); (· exact ⟨_, rfl⟩); conv => whnf)
      | ((with_reducible refine needm_of ?_ ?_); (· first | assumption | exact decide_eq_true (by omega) | exact mkOK_of (by decide) | decide +kernel | (refine decide_eq_true ?_; simp (disch := omega) only [i64w]; omega)); conv => whnf)
      | ((with_reducible refine condm_pos ?_ ?_); (· assumption); conv => whnf)
      | ((with_reducible refine condm_neg ?_ ?_); (· assumption); conv => whnf)
      | ((with_reducible refine forceL_fv (by assumption) ?_); conv => whnf)
      | ((with_reducible refine forceL_rfv (by assumption) ?_); conv => whnf)
      | ((with_reducible refine forceNm_of ?_); conv => whnf)
      | ((with_reducible refine needm_of (fv_lenL (by assumption) (by assumption)) ?_); conv => whnf)
      | ((with_reducible refine optm_var (fv_strL (by assumption) (by assumption)) (fun s hs => ?_)); conv => whnf)
      | ((with_reducible refine forceA_of ?_); conv => whnf)
      | ((with_reducible refine forceL_pl (by assumption) ?_); conv => whnf)
      | ((with_reducible refine forceL_rpl (by assumption) ?_); conv => whnf)
      | fail)
    exact keepOf (v₀ := .t [.a .nilp, .a (.int .i64 1)]) [] [] rfl trivial rfl hK
set_option maxHeartbeats 400000 in
theorem new18g (room : Nat) (h1 : 1 ≤ room) (h2 : room ≤ 1024) {K : V → Hp → Prop} (hK : K (.t [.a (.ptr 0 0), .a (.int .i64 0)]) [.cells [.int .i64 room, .slc 1 0 0 0] 47 false, .cells [] 69 false]) : Go.Eng.Fn Try.prog ro 18 [.a (.int .i64 (room : Int))] [] K := by
  refine Fn.ghost ?_
  have c1 : decide ((room : Int) < 1) = false := decide_eq_false (by omega)
  have c2 : decide ((room : Int) > 1024) = false := decide_eq_false (by omega)
  refine Go.Eng.Fn.weak ?_
  refine Go.Eng.Fn.of_code (gOf []) Try.func18 rfl (Nat.le_of_ble_eq_true rfl) ?_
  conv => whnf
  repeat' (first
    | ((with_reducible refine regx_of ?_ ?_); (· decide +kernel); conv => whnf)
    | ((with_reducible refine growx_pre ?_ ?_); (· exact ⟨_, rfl⟩); conv => whnf)
    | ((with_reducible refine needm_of ?_ ?_); (· first | assumption | exact decide_eq_true (by omega) | exact mkOK_of (by decide) | decide +kernel | (refine decide_eq_true ?_; simp (disch := omega) only [i64w]; omega)); conv => whnf)
    | ((with_reducible refine condm_pos ?_ ?_); (· assumption); conv => whnf)
    | ((with_reducible refine condm_neg ?_ ?_); (· assumption); conv => whnf)
    | ((with_reducible refine forceL_fv (by assumption) ?_); conv => whnf)
    | ((with_reducible refine forceL_rfv (by assumption) ?_); conv => whnf)
    | ((with_reducible refine forceNm_of ?_); conv => whnf)
    | ((with_reducible refine needm_of (fv_lenL (by assumption) (by assumption)) ?_); conv => whnf)
    | ((with_reducible refine optm_var (fv_strL (by assumption) (by assumption)) (fun s hs => ?_)); conv => whnf)
    | ((with_reducible refine forceA_of ?_); conv => whnf)
    | ((with_reducible refine forceL_pl (by assumption) ?_); conv => whnf)
    | ((with_reducible refine forceL_rpl (by assumption) ?_); conv => whnf)
    | fail)
  exact keepOf (v₀ := .t [.a (.ptr 0 0), .a (.int .i64 0)]) [.cells [.int .i64 room, .nils] 47 false] [0] rfl ⟨rfl, trivial⟩ rfl ⟨1, .t [.a (.ptr 0 0), .a (.int .i64 0)], [.cells [.int .i64 room, .slc 1 0 0 0] 47 false, .cells [] 69 false], rfl, rfl, ⟨rfl, rfl, trivial⟩, rfl, hK⟩
set_option maxHeartbeats 400000 in
theorem new18e (room : Int) (h : ¬ (1 ≤ room ∧ room ≤ 1024)) {K : V → Hp → Prop} (hK : K (.t [.a .nilp, .a (.int .i64 1)]) []) : Go.Eng.Fn Try.prog ro 18 [.a (.int .i64 room)] [] K := by
  refine Go.Eng.Fn.weak ?_
  refine Go.Eng.Fn.of_code (gOf []) Try.func18 rfl (Nat.le_of_ble_eq_true rfl) ?_
  by_cases h1 : room < 1
  · have c1 : decide (room < 1) = true := decide_eq_true h1
    conv => whnf
    repeat' (first
      | ((with_reducible refine regx_of ?_ ?_); (· decide +kernel); conv => whnf)
      | ((with_reducible refine growx_pre ?_ ?_); (· exact ⟨_, rfl⟩); conv => whnf)
      | ((with_reducible refine needm_of ?_ ?_); (· first | assumption | exact decide_eq_true (by omega) | exact mkOK_of (by decide) | decide +kernel | (refine decide_eq_true ?_; simp (disch := omega) only [i64w]; omega)); conv => whnf)
      | ((with_reducible refine condm_pos ?_ ?_); (· assumption); conv => whnf)
      | ((with_reducible refine condm_neg ?_ ?_); (· assumption); conv => whnf)
      | ((with_reducible refine forceL_fv (by assumption) ?_); conv => whnf)
      | ((with_reducible refine forceL_rfv (by assumption) ?_); conv => whnf)
      | ((with_reducible refine forceNm_of ?_); conv => whnf)
      | ((with_reducible refine needm_of (fv_lenL (by assumption) (by assumption)) ?_); conv => whnf)
      | ((with_reducible refine optm_var (fv_strL (by assumption) (by assumption)) (fun s hs => ?_)); conv => whnf)
      | ((with_reducible refine forceA_of ?_); conv => whnf)
      | ((with_reducible refine forceL_pl (by assumption) ?_); conv => whnf)
      | ((with_reducible refine forceL_rpl (by assumption) ?_); conv => whnf)
      | fail)
    exact keepOf (v₀ := .t [.a .nilp, .a (.int .i64 1)]) [] [] rfl trivial rfl hK
  · have c1 : decide (room < 1) = false := decide_eq_false h1
    have c2 : decide (room > 1024) = true := decide_eq_true (by omega)
    conv => whnf
    repeat' (first
      | ((with_reducible refine regx_of ?_ ?_); (· decide +kernel); conv => whnf)
      | ((with_reducible refine growx_pre ?_ ?_); (· exact ⟨_, rfl⟩); conv => whnf)
      | ((with_reducible refine needm_of ?_ ?_); (· first | assumption | exact decide_eq_true (by omega) | exact mkOK_of (by decide) | decide +kernel | (refine decide_eq_true ?_; simp (disch := omega) only [i64w]; omega)); conv => whnf)
      | ((with_reducible refine condm_pos ?_ ?_); (· assumption); conv => whnf)
      | ((with_reducible refine condm_neg ?_ ?_); (· assumption); conv => whnf)
      | ((with_reducible refine forceL_fv (by assumption) ?_); conv => whnf)
      | ((with_reducible refine forceL_rfv (by assumption) ?_); conv => whnf)
      | ((with_reducible refine forceNm_of ?_); conv => whnf)
      | ((with_reducible refine needm_of (fv_lenL (by assumption) (by assumption)) ?_); conv => whnf)
      | ((with_reducible refine optm_var (fv_strL (by assumption) (by assumption)) (fun s hs => ?_)); conv => whnf)
      | ((with_reducible refine forceA_of ?_); conv => whnf)
      | ((with_reducible refine forceL_pl (by assumption) ?_); conv => whnf)
      | ((with_reducible refine forceL_rpl (by assumption) ?_); conv => whnf)
      | fail)
    exact keepOf (v₀ := .t [.a .nilp, .a (.int .i64 1)]) [] [] rfl trivial rfl hK
set_option maxHeartbeats 1000000 in
theorem put36 (room : Nat) (x : Fl) (xr : List A) (hxr : xr = x.row) (L y : List Fl) (cs : List A) (cap : Nat) (mk : Bool) (hcs : cs = fls (L ++ y)) (hcap : cap = L.length + y.length) (hL : L.length ≤ 1024) {K : V → Hp → Prop}
    (hK1 : room ≤ L.length → K (.a (.int .i64 3)) [.cells [.int .i64 room, .slc 1 0 L.length cap] 47 false, .cells cs 69 mk])
    (hK2 : L.length < room → ∀ y cs, cs = fls ((L ++ [x]) ++ y) → cap = (L ++ [x]).length + y.length → K (.a (.int .i64 0)) [.cells [.int .i64 room, .slc 1 0 (L ++ [x]).length cap] 47 false, .cells cs 69 mk])
    (hK3 : L.length < room → ∀ y cs' cap', cs' = fls ((L ++ [x]) ++ y) → cap' = (L ++ [x]).length + y.length → K (.a (.int .i64 0)) [.cells [.int .i64 room, .slc 2 0 (L ++ [x]).length cap'] 47 false, .cells cs 69 mk, .cells cs' 69 false]) :
    Go.Eng.Fn Try.prog ro 36 [.a (.ptr 0 0), .g xr] [.cells [.int .i64 room, .slc 1 0 L.length cap] 47 false, .cells cs 69 mk] K := by
  have hcp := Pl.fls hcs
  have hcl : cs.length = (L.length + y.length) * 3 := by rw [hcs, fls_length, List.length_append]
  have hlx : (L ++ [x]).length = L.length + 1 := by simp
  obtain ⟨z3, hz3⟩ : ∃ z : List A, z = [.int .u8 0, .int .u8 0, .str { data := #[] }] := ⟨_, rfl⟩
  have hzp : Pl z3 := by rw [hz3]; exact ⟨fun _ => rfl, fun _ => rfl⟩
  have hzl : z3.length = 3 := by rw [hz3]; rfl
  have hrz : repl z3 (1 * Try.prog.types[69].size) = z3 := by rw [hz3]; rfl
  have hxp : Pl xr := by rw [hxr]; exact ⟨fun _ => rfl, fun _ => rfl⟩
  have hxl : xr.length = 3 := by rw [hxr]; rfl
  have hx1 : List.drop 0 (List.take (0 + 1 * Try.prog.types[69].size) xr) = xr := whole_of (by rw [hxl]; rfl)
  refine Go.Eng.Fn.weak ?_
  refine Go.Eng.Fn.of 2 MT.h36 rfl Try.func36 rfl (Nat.le_of_ble_eq_true rfl) ?_
  conv => whnf
  generalize hn : L.length = n at *
  repeat' (first
    | rw [← hz3]
    | rw [hrz]
    | rw [Nat.zero_mul Try.prog.types[69].size]
    | ((with_reducible refine regx_of ?_ ?_); (· decide +kernel); conv => whnf)
    | ((with_reducible refine growx_pre ?_ ?_); (· exact ⟨_, rfl⟩); conv => whnf)
    | ((with_reducible refine needm_of ?_ ?_); (· first | assumption | exact decide_eq_true (by omega) | exact mkOK_of (by decide) | decide +kernel | (refine decide_eq_true ?_; simp (disch := omega) only [i64w]; omega)); conv => whnf)
    | ((with_reducible refine condm_pos ?_ ?_); (· assumption); conv => whnf)
    | ((with_reducible refine condm_neg ?_ ?_); (· assumption); conv => whnf)
    | ((with_reducible refine forceL_fv (by assumption) ?_); conv => whnf)
    | ((with_reducible refine forceL_rfv (by assumption) ?_); conv => whnf)
    | ((with_reducible refine forceNm_of ?_); conv => whnf)
    | ((with_reducible refine needm_of (fv_lenL (by assumption) (by assumption)) ?_); conv => whnf)
    | ((with_reducible refine optm_var (fv_strL (by assumption) (by assumption)) (fun s hs => ?_)); conv => whnf)
    | ((with_reducible refine forceA_of ?_); conv => whnf)
    | ((with_reducible refine forceL_pl (by assumption) ?_); conv => whnf)
    | ((with_reducible refine forceL_rpl (by assumption) ?_); conv => whnf)
    | ((with_reducible refine needm_of ?_ ?_); (· first | (rw [hxl, hzl]; rfl) | (rw [hxl]; rfl)); conv => whnf)
    | ((with_reducible refine forceL_to (whole_of ?_) ?_); (· rw [hxl]; rfl); conv => whnf)
    | ((with_reducible refine forceL_to (store_all ?_) ?_); (· rw [hxl, hzl]); conv => whnf)
    | fail)
  refine condm_of (fun h => ?_) (fun h => ?_)
  · have h' := of_decide_eq_true h
    conv => whnf
    repeat' (first
      | rw [← hz3]
      | rw [hrz]
      | rw [Nat.zero_mul Try.prog.types[69].size]
      | ((with_reducible refine regx_of ?_ ?_); (· decide +kernel); conv => whnf)
      | ((with_reducible refine growx_pre ?_ ?_); (· exact ⟨_, rfl⟩); conv => whnf)
      | ((with_reducible refine needm_of ?_ ?_); (· first | assumption | exact decide_eq_true (by omega) | exact mkOK_of (by decide) | decide +kernel | (refine decide_eq_true ?_; simp (disch := omega) only [i64w]; omega)); conv => whnf)
      | ((with_reducible refine condm_pos ?_ ?_); (· assumption); conv => whnf)
      | ((with_reducible refine condm_neg ?_ ?_); (· assumption); conv => whnf)
      | ((with_reducible refine forceL_fv (by assumption) ?_); conv => whnf)
      | ((with_reducible refine forceL_rfv (by assumption) ?_); conv => whnf)
      | ((with_reducible refine forceNm_of ?_); conv => whnf)
      | ((with_reducible refine needm_of (fv_lenL (by assumption) (by assumption)) ?_); conv => whnf)
      | ((with_reducible refine optm_var (fv_strL (by assumption) (by assumption)) (fun s hs => ?_)); conv => whnf)
      | ((with_reducible refine forceA_of ?_); conv => whnf)
      | ((with_reducible refine forceL_pl (by assumption) ?_); conv => whnf)
      | ((with_reducible refine forceL_rpl (by assumption) ?_); conv => whnf)
      | ((with_reducible refine needm_of ?_ ?_); (· first | (rw [hxl, hzl]; rfl) | (rw [hxl]; rfl)); conv => whnf)
      | ((with_reducible refine forceL_to (whole_of ?_) ?_); (· rw [hxl]; rfl); conv => whnf)
      | ((with_reducible refine forceL_to (store_all ?_) ?_); (· rw [hxl, hzl]); conv => whnf)
      | fail)
    exact keepOf (v₀ := .a (.int .i64 3)) [.cells [.int .i64 room, .slc 1 0 n cap] 47 false, .cells cs 69 mk] [0, 1] rfl ⟨rfl, ren_pl hcp _ _ _, trivial⟩ (by simp [nodupb, baseb, Ob.okb, frmOk, V.okb, A.okb, hcp.2] <;> decide) (hK1 (by omega))
  · have h' := of_decide_eq_false h
    conv => whnf
    repeat' (first
      | rw [← hz3]
      | rw [hrz]
      | rw [Nat.zero_mul Try.prog.types[69].size]
      | ((with_reducible refine regx_of ?_ ?_); (· decide +kernel); conv => whnf)
      | ((with_reducible refine growx_pre ?_ ?_); (· exact ⟨_, rfl⟩); conv => whnf)
      | ((with_reducible refine needm_of ?_ ?_); (· first | assumption | exact decide_eq_true (by omega) | exact mkOK_of (by decide) | decide +kernel | (refine decide_eq_true ?_; simp (disch := omega) only [i64w]; omega)); conv => whnf)
      | ((with_reducible refine condm_pos ?_ ?_); (· assumption); conv => whnf)
      | ((with_reducible refine condm_neg ?_ ?_); (· assumption); conv => whnf)
      | ((with_reducible refine forceL_fv (by assumption) ?_); conv => whnf)
      | ((with_reducible refine forceL_rfv (by assumption) ?_); conv => whnf)
      | ((with_reducible refine forceNm_of ?_); conv => whnf)
      | ((with_reducible refine needm_of (fv_lenL (by assumption) (by assumption)) ?_); conv => whnf)
      | ((with_reducible refine optm_var (fv_strL (by assumption) (by assumption)) (fun s hs => ?_)); conv => whnf)
      | ((with_reducible refine forceA_of ?_); conv => whnf)
      | ((with_reducible refine forceL_pl (by assumption) ?_); conv => whnf)
      | ((with_reducible refine forceL_rpl (by assumption) ?_); conv => whnf)
      | ((with_reducible refine needm_of ?_ ?_); (· first | (rw [hxl, hzl]; rfl) | (rw [hxl]; rfl)); conv => whnf)
      | ((with_reducible refine forceL_to (whole_of ?_) ?_); (· rw [hxl]; rfl); conv => whnf)
      | ((with_reducible refine forceL_to (store_all ?_) ?_); (· rw [hxl, hzl]); conv => whnf)
      | fail)
    rw [hx1]
    refine condm_of (fun hc => ?_) (fun hc => ?_)
    · have hc' := of_decide_eq_true hc
      conv => whnf
      refine needm_of (decide_eq_true (by rw [s69, hxl, hcl]; omega)) ?_
      conv => whnf
      repeat' (first
        | rw [← hz3]
        | rw [hrz]
        | rw [Nat.zero_mul Try.prog.types[69].size]
        | ((with_reducible refine regx_of ?_ ?_); (· decide +kernel); conv => whnf)
        | ((with_reducible refine growx_pre ?_ ?_); (· exact ⟨_, rfl⟩); conv => whnf)
        | ((with_reducible refine needm_of ?_ ?_); (· first | assumption | exact decide_eq_true (by omega) | exact mkOK_of (by decide) | decide +kernel | (refine decide_eq_true ?_; simp (disch := omega) only [i64w]; omega)); conv => whnf)
        | ((with_reducible refine condm_pos ?_ ?_); (· assumption); conv => whnf)
        | ((with_reducible refine condm_neg ?_ ?_); (· assumption); conv => whnf)
        | ((with_reducible refine forceL_fv (by assumption) ?_); conv => whnf)
        | ((with_reducible refine forceL_rfv (by assumption) ?_); conv => whnf)
        | ((with_reducible refine forceNm_of ?_); conv => whnf)
        | ((with_reducible refine needm_of (fv_lenL (by assumption) (by assumption)) ?_); conv => whnf)
        | ((with_reducible refine optm_var (fv_strL (by assumption) (by assumption)) (fun s hs => ?_)); conv => whnf)
        | ((with_reducible refine forceA_of ?_); conv => whnf)
        | ((with_reducible refine forceL_pl (by assumption) ?_); conv => whnf)
        | ((with_reducible refine forceL_rpl (by assumption) ?_); conv => whnf)
        | ((with_reducible refine needm_of ?_ ?_); (· first | (rw [hxl, hzl]; rfl) | (rw [hxl]; rfl)); conv => whnf)
        | ((with_reducible refine forceL_to (whole_of ?_) ?_); (· rw [hxl]; rfl); conv => whnf)
        | ((with_reducible refine forceL_to (store_all ?_) ?_); (· rw [hxl, hzl]); conv => whnf)
        | fail)
      refine forceL_var (fl_in hcs hxr (by rw [s69, hn, Nat.zero_add]) (by omega)) (fun cs2 hcs2 => ?_)
      have hcp2 := Pl.fls hcs2
      conv => whnf
      repeat' (first
        | rw [← hz3]
        | rw [hrz]
        | rw [Nat.zero_mul Try.prog.types[69].size]
        | ((with_reducible refine regx_of ?_ ?_); (· decide +kernel); conv => whnf)
        | ((with_reducible refine growx_pre ?_ ?_); (· exact ⟨_, rfl⟩); conv => whnf)
        | ((with_reducible refine needm_of ?_ ?_); (· first | assumption | exact decide_eq_true (by omega) | exact mkOK_of (by decide) | decide +kernel | (refine decide_eq_true ?_; simp (disch := omega) only [i64w]; omega)); conv => whnf)
        | ((with_reducible refine condm_pos ?_ ?_); (· assumption); conv => whnf)
        | ((with_reducible refine condm_neg ?_ ?_); (· assumption); conv => whnf)
        | ((with_reducible refine forceL_fv (by assumption) ?_); conv => whnf)
        | ((with_reducible refine forceL_rfv (by assumption) ?_); conv => whnf)
        | ((with_reducible refine forceNm_of ?_); conv => whnf)
        | ((with_reducible refine needm_of (fv_lenL (by assumption) (by assumption)) ?_); conv => whnf)
        | ((with_reducible refine optm_var (fv_strL (by assumption) (by assumption)) (fun s hs => ?_)); conv => whnf)
        | ((with_reducible refine forceA_of ?_); conv => whnf)
        | ((with_reducible refine forceL_pl (by assumption) ?_); conv => whnf)
        | ((with_reducible refine forceL_rpl (by assumption) ?_); conv => whnf)
        | ((with_reducible refine needm_of ?_ ?_); (· first | (rw [hxl, hzl]; rfl) | (rw [hxl]; rfl)); conv => whnf)
        | ((with_reducible refine forceL_to (whole_of ?_) ?_); (· rw [hxl]; rfl); conv => whnf)
        | ((with_reducible refine forceL_to (store_all ?_) ?_); (· rw [hxl, hzl]); conv => whnf)
        | fail)
      have hk := hK2 (by omega) y.tail cs2 hcs2 (by rw [List.length_tail, List.length_append, List.length_singleton]; omega)
      rw [List.length_append, List.length_singleton, hn] at hk
      exact keepOf (v₀ := .a (.int .i64 0)) [.cells [.int .i64 room, .slc 1 0 (n + 1) cap] 47 false, .cells cs2 69 mk] [0, 1] rfl ⟨rfl, ren_pl hcp2 _ _ _, trivial⟩ (by simp [nodupb, baseb, Ob.okb, frmOk, V.okb, A.okb, hcp2.2] <;> decide) hk
    · have hc' := of_decide_eq_false hc
      conv => whnf
      refine needm_of (decide_eq_true (by rw [s69, b69, hcl]; omega)) ?_
      intro cap' hcap'
      conv => whnf
      repeat' (first
        | rw [← hz3]
        | rw [hrz]
        | rw [Nat.zero_mul Try.prog.types[69].size]
        | ((with_reducible refine regx_of ?_ ?_); (· decide +kernel); conv => whnf)
        | ((with_reducible refine growx_pre ?_ ?_); (· exact ⟨_, rfl⟩); conv => whnf)
        | ((with_reducible refine needm_of ?_ ?_); (· first | assumption | exact decide_eq_true (by omega) | exact mkOK_of (by decide) | decide +kernel | (refine decide_eq_true ?_; simp (disch := omega) only [i64w]; omega)); conv => whnf)
        | ((with_reducible refine condm_pos ?_ ?_); (· assumption); conv => whnf)
        | ((with_reducible refine condm_neg ?_ ?_); (· assumption); conv => whnf)
        | ((with_reducible refine forceL_fv (by assumption) ?_); conv => whnf)
        | ((with_reducible refine forceL_rfv (by assumption) ?_); conv => whnf)
        | ((with_reducible refine forceNm_of ?_); conv => whnf)
        | ((with_reducible refine needm_of (fv_lenL (by assumption) (by assumption)) ?_); conv => whnf)
        | ((with_reducible refine optm_var (fv_strL (by assumption) (by assumption)) (fun s hs => ?_)); conv => whnf)
        | ((with_reducible refine forceA_of ?_); conv => whnf)
        | ((with_reducible refine forceL_pl (by assumption) ?_); conv => whnf)
        | ((with_reducible refine forceL_rpl (by assumption) ?_); conv => whnf)
        | ((with_reducible refine needm_of ?_ ?_); (· first | (rw [hxl, hzl]; rfl) | (rw [hxl]; rfl)); conv => whnf)
        | ((with_reducible refine forceL_to (whole_of ?_) ?_); (· rw [hxl]; rfl); conv => whnf)
        | ((with_reducible refine forceL_to (store_all ?_) ?_); (· rw [hxl, hzl]); conv => whnf)
        | fail)
      refine forceL_var (fl_new hcs hxr (n := cap' - (n + 1)) (by rw [s69, hn]) hz3) (fun cs2 hcs2 => ?_)
      have hcp2 := Pl.fls hcs2
      conv => whnf
      repeat' (first
        | rw [← hz3]
        | rw [hrz]
        | rw [Nat.zero_mul Try.prog.types[69].size]
        | ((with_reducible refine regx_of ?_ ?_); (· decide +kernel); conv => whnf)
        | ((with_reducible refine growx_pre ?_ ?_); (· exact ⟨_, rfl⟩); conv => whnf)
        | ((with_reducible refine needm_of ?_ ?_); (· first | assumption | exact decide_eq_true (by omega) | exact mkOK_of (by decide) | decide +kernel | (refine decide_eq_true ?_; simp (disch := omega) only [i64w]; omega)); conv => whnf)
        | ((with_reducible refine condm_pos ?_ ?_); (· assumption); conv => whnf)
        | ((with_reducible refine condm_neg ?_ ?_); (· assumption); conv => whnf)
        | ((with_reducible refine forceL_fv (by assumption) ?_); conv => whnf)
        | ((with_reducible refine forceL_rfv (by assumption) ?_); conv => whnf)
        | ((with_reducible refine forceNm_of ?_); conv => whnf)
        | ((with_reducible refine needm_of (fv_lenL (by assumption) (by assumption)) ?_); conv => whnf)
        | ((with_reducible refine optm_var (fv_strL (by assumption) (by assumption)) (fun s hs => ?_)); conv => whnf)
        | ((with_reducible refine forceA_of ?_); conv => whnf)
        | ((with_reducible refine forceL_pl (by assumption) ?_); conv => whnf)
        | ((with_reducible refine forceL_rpl (by assumption) ?_); conv => whnf)
        | ((with_reducible refine needm_of ?_ ?_); (· first | (rw [hxl, hzl]; rfl) | (rw [hxl]; rfl)); conv => whnf)
        | ((with_reducible refine forceL_to (whole_of ?_) ?_); (· rw [hxl]; rfl); conv => whnf)
        | ((with_reducible refine forceL_to (store_all ?_) ?_); (· rw [hxl, hzl]); conv => whnf)
        | fail)
      have hk := hK3 (by omega) _ cs2 cap' hcs2 (by rw [List.length_replicate, List.length_append, List.length_singleton]; omega)
      rw [List.length_append, List.length_singleton, hn] at hk
      exact keepOf (v₀ := .a (.int .i64 0)) [.cells [.int .i64 room, .slc 2 0 (n + 1) cap'] 47 false, .cells cs 69 mk, .cells cs2 69 false] [0, 1, 4] rfl ⟨rfl, ren_pl hcp _ _ _, ren_pl hcp2 _ _ _, trivial⟩ (by simp [nodupb, baseb, Ob.okb, frmOk, V.okb, A.okb, hcp.2, hcp2.2] <;> decide) hk
end
end Go.Proofs.Ytkggpkgnkppceaa.LK
