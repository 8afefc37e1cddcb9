import Derived.Test.YtkggpkgnkppceaaLS
namespace Go.Proofs.Ytkggpkgnkppceaa.LK
open Go.Eng
set_option maxRecDepth 100000
section
variable {ro : Addr → A → Prop}
set_option maxHeartbeats 1000000 in
theorem turn17n (room : Nat) (i j : Int) {K : V → Hp → Prop} (hK : K (.a (.int .i64 220)) [.cells [.int .i64 room, .nils] 57 false]) :
    Go.Eng.Fn Try.prog ro 17 [.a (.ptr 0 0), .a (.int .i64 i), .a (.int .i64 j)] [.cells [.int .i64 room, .nils] 57 false] K := by
  refine Go.Eng.Fn.weak ?_
  refine Go.Eng.Fn.of 1 h17 rfl Try.func17 rfl (Nat.le_of_ble_eq_true rfl) ?_
  conv => whnf
  refine Go.Eng.Fn.frame [0] (by rfl) (by exact ⟨rfl, trivial⟩) (by rfl) (at25n room i ?_)
  conv => whnf
  repeat' (first
    | ((with_reducible refine regx_of ?_ ?_); (· decide +kernel); conv => whnf)
    | ((with_reducible refine growx_pre ?_ ?_); (· exact ⟨_, rfl⟩); conv => whnf)
    | ((with_reducible refine needm_of ?_ ?_); (· first | assumption | exact decide_eq_true (by omega) | exact mkOK_of (by decide) | decide +kernel | (refine decide_eq_true ?_; simp (disch := omega) only [i64w]; omega)); conv => whnf)
    | ((with_reducible refine condm_pos ?_ ?_); (· assumption); conv => whnf)
    | ((with_reducible refine condm_neg ?_ ?_); (· assumption); conv => whnf)
    | ((with_reducible refine forceL_fv (by assumption) ?_); conv => whnf)
    | ((with_reducible refine forceL_rfv (by assumption) ?_); conv => whnf)
    | ((with_reducible refine forceNm_of ?_); conv => whnf)
    | ((with_reducible refine needm_of (fv_lenL (by assumption) (by assumption)) ?_); conv => whnf)
    | ((with_reducible refine optm_var (fv_strL (by assumption) (by assumption)) (fun s hs => ?_)); conv => whnf)
    | ((with_reducible refine forceA_of ?_); conv => whnf)
    | ((with_reducible refine forceL_pl (by assumption) ?_); conv => whnf)
    | ((with_reducible refine forceL_rpl (by assumption) ?_); conv => whnf)
    | fail)
  exact keepOf (v₀ := .a (.int .i64 220)) [.cells [.int .i64 room, .nils] 57 false] [0] rfl ⟨rfl, trivial⟩ rfl hK
set_option maxHeartbeats 1000000 in
theorem turn17 (room : Nat) (i j : Int) (L y : List Fl) (cs : List A) (cap : Nat) (mk : Bool) (hcs : cs = fls (L ++ y)) (_ : cap = L.length + y.length) (hL : L.length ≤ 1024) {K : V → Hp → Prop}
    (hK0 : ¬ ((0 ≤ i ∧ i < L.length) ∧ (0 ≤ j ∧ j < L.length)) → K (.a (.int .i64 220)) [.cells [.int .i64 room, .slc 1 0 L.length cap] 57 false, .cells cs 61 mk])
    (hK1 : ∀ xi xj, L[i.toNat]? = some xi → L[j.toNat]? = some xj → 0 ≤ i ∧ i < L.length → 0 ≤ j ∧ j < L.length → ∀ cs, cs = fls (((L.set i.toNat xj).set j.toNat xi) ++ y) → K (.a (.int .i64 0)) [.cells [.int .i64 room, .slc 1 0 L.length cap] 57 false, .cells cs 61 mk]) :
    Go.Eng.Fn Try.prog ro 17 [.a (.ptr 0 0), .a (.int .i64 i), .a (.int .i64 j)] [.cells [.int .i64 room, .slc 1 0 L.length cap] 57 false, .cells cs 61 mk] K := by
  have hp := Pl.fls hcs
  obtain ⟨z3, hz3⟩ : ∃ z : List A, z = [.int .u8 0, .int .u8 0, .str { data := #[] }] := ⟨_, rfl⟩
  have hzp : Pl z3 := by rw [hz3]; exact ⟨fun _ => rfl, fun _ => rfl⟩
  have hzl : z3.length = 3 := by rw [hz3]; rfl
  refine Go.Eng.Fn.weak ?_
  refine Go.Eng.Fn.of 2 h17 rfl Try.func17 rfl (Nat.le_of_ble_eq_true rfl) ?_
  conv => whnf
  repeat' (first
    | ((with_reducible refine regx_of ?_ ?_); (· decide +kernel); conv => whnf)
    | ((with_reducible refine growx_pre ?_ ?_); (· exact ⟨_, rfl⟩); conv => whnf)
    | ((with_reducible refine needm_of ?_ ?_); (· first | assumption | exact decide_eq_true (by omega) | exact mkOK_of (by decide) | decide +kernel | (refine decide_eq_true ?_; simp (disch := omega) only [i64w]; omega)); conv => whnf)
    | ((with_reducible refine condm_pos ?_ ?_); (· assumption); conv => whnf)
    | ((with_reducible refine condm_neg ?_ ?_); (· assumption); conv => whnf)
    | ((with_reducible refine forceL_fv (by assumption) ?_); conv => whnf)
    | ((with_reducible refine forceL_rfv (by assumption) ?_); conv => whnf)
    | ((with_reducible refine forceNm_of ?_); conv => whnf)
    | ((with_reducible refine needm_of (fv_lenL (by assumption) (by assumption)) ?_); conv => whnf)
    | ((with_reducible refine optm_var (fv_strL (by assumption) (by assumption)) (fun s hs => ?_)); conv => whnf)
    | ((with_reducible refine forceA_of ?_); conv => whnf)
    | ((with_reducible refine forceL_pl (by assumption) ?_); conv => whnf)
    | ((with_reducible refine forceL_rpl (by assumption) ?_); conv => whnf)
    | fail)
  refine Go.Eng.Fn.frame [0, 1] (by rfl) (by exact ⟨rfl, ren_pl hp _ _ _, trivial⟩) (by simp [nodupb, V.okb, A.okb, Ob.okb, hp.2] <;> decide) (at25 room i L.length cap cs (L ++ y) hcs (by rw [List.length_append]; omega) mk (fun h xr hxr => ?_) (fun x hx h xr hxr => ?_))
  all_goals
    have hxp : Pl xr := by rw [hxr]; exact ⟨fun _ => rfl, fun _ => rfl⟩
    have hxl : xr.length = 3 := by rw [hxr]; rfl
  · conv => whnf
    repeat' (first
      | rw [← hz3]
      | ((with_reducible refine regx_of ?_ ?_); (· decide +kernel); conv => whnf)
      | ((with_reducible refine growx_pre ?_ ?_); (· exact ⟨_, rfl⟩); conv => whnf)
      | ((with_reducible refine needm_of ?_ ?_); (· first | assumption | exact decide_eq_true (by omega) | exact mkOK_of (by decide) | decide +kernel | (refine decide_eq_true ?_; simp (disch := omega) only [i64w]; omega)); conv => whnf)
      | ((with_reducible refine condm_pos ?_ ?_); (· assumption); conv => whnf)
      | ((with_reducible refine condm_neg ?_ ?_); (· assumption); conv => whnf)
      | ((with_reducible refine forceL_fv (by assumption) ?_); conv => whnf)
      | ((with_reducible refine forceL_rfv (by assumption) ?_); conv => whnf)
      | ((with_reducible refine forceNm_of ?_); conv => whnf)
      | ((with_reducible refine needm_of (fv_lenL (by assumption) (by assumption)) ?_); conv => whnf)
      | ((with_reducible refine optm_var (fv_strL (by assumption) (by assumption)) (fun s hs => ?_)); conv => whnf)
      | ((with_reducible refine forceA_of ?_); conv => whnf)
      | ((with_reducible refine forceL_pl (by assumption) ?_); conv => whnf)
      | ((with_reducible refine forceL_rpl (by assumption) ?_); conv => whnf)
      | ((with_reducible refine needm_of ?_ ?_); (· (rw [hxl, hzl]; rfl)); conv => whnf)
      | ((with_reducible refine needm_of ?_ ?_); (· (rw [hxl]; rfl)); conv => whnf)
      | ((with_reducible refine needm_of ?_ ?_); (· (rw [hul, hzl]; rfl)); conv => whnf)
      | ((with_reducible refine needm_of ?_ ?_); (· (rw [hul]; rfl)); conv => whnf)
      | ((with_reducible refine forceL_to (whole_of ?_) ?_); (· rw [hxl]; rfl); conv => whnf)
      | ((with_reducible refine forceL_to (store_all ?_) ?_); (· rw [hxl, hzl]); conv => whnf)
      | ((with_reducible refine forceL_to (store_all ?_) ?_); (· rw [hul, hzl]); conv => whnf)
      | fail)
    exact keepOf (v₀ := .a (.int .i64 220)) [.cells [.int .i64 room, .slc 1 0 L.length cap] 57 false, .cells cs 61 mk] [0, 1] rfl ⟨rfl, ren_pl hp _ _ _, trivial⟩ (by simp [nodupb, baseb, Ob.okb, frmOk, V.okb, A.okb, hp.2] <;> decide) (hK0 (fun h' => h h'.1))
  · have hx0 := hx
    rw [List.getElem?_append_left (by omega)] at hx
    conv => whnf
    repeat' (first
      | rw [← hz3]
      | ((with_reducible refine regx_of ?_ ?_); (· decide +kernel); conv => whnf)
      | ((with_reducible refine growx_pre ?_ ?_); (· exact ⟨_, rfl⟩); conv => whnf)
      | ((with_reducible refine needm_of ?_ ?_); (· first | assumption | exact decide_eq_true (by omega) | exact mkOK_of (by decide) | decide +kernel | (refine decide_eq_true ?_; simp (disch := omega) only [i64w]; omega)); conv => whnf)
      | ((with_reducible refine condm_pos ?_ ?_); (· assumption); conv => whnf)
      | ((with_reducible refine condm_neg ?_ ?_); (· assumption); conv => whnf)
      | ((with_reducible refine forceL_fv (by assumption) ?_); conv => whnf)
      | ((with_reducible refine forceL_rfv (by assumption) ?_); conv => whnf)
      | ((with_reducible refine forceNm_of ?_); conv => whnf)
      | ((with_reducible refine needm_of (fv_lenL (by assumption) (by assumption)) ?_); conv => whnf)
      | ((with_reducible refine optm_var (fv_strL (by assumption) (by assumption)) (fun s hs => ?_)); conv => whnf)
      | ((with_reducible refine forceA_of ?_); conv => whnf)
      | ((with_reducible refine forceL_pl (by assumption) ?_); conv => whnf)
      | ((with_reducible refine forceL_rpl (by assumption) ?_); conv => whnf)
      | ((with_reducible refine needm_of ?_ ?_); (· (rw [hxl, hzl]; rfl)); conv => whnf)
      | ((with_reducible refine needm_of ?_ ?_); (· (rw [hxl]; rfl)); conv => whnf)
      | ((with_reducible refine needm_of ?_ ?_); (· (rw [hul, hzl]; rfl)); conv => whnf)
      | ((with_reducible refine needm_of ?_ ?_); (· (rw [hul]; rfl)); conv => whnf)
      | ((with_reducible refine forceL_to (whole_of ?_) ?_); (· rw [hxl]; rfl); conv => whnf)
      | ((with_reducible refine forceL_to (store_all ?_) ?_); (· rw [hxl, hzl]); conv => whnf)
      | ((with_reducible refine forceL_to (store_all ?_) ?_); (· rw [hul, hzl]); conv => whnf)
      | fail)
    refine Go.Eng.Fn.frame [0, 1] (by rfl) (by exact ⟨rfl, ren_pl hp _ _ _, trivial⟩) (by simp [nodupb, V.okb, A.okb, Ob.okb, hp.2] <;> decide) (at25 room j L.length cap cs (L ++ y) hcs (by rw [List.length_append]; omega) mk (fun h2 ur hur => ?_) (fun u hu h2 ur hur => ?_))
    all_goals
      have hup : Pl ur := by rw [hur]; exact ⟨fun _ => rfl, fun _ => rfl⟩
      have hul : ur.length = 3 := by rw [hur]; rfl
    · conv => whnf
      repeat' (first
        | rw [← hz3]
        | ((with_reducible refine regx_of ?_ ?_); (· decide +kernel); conv => whnf)
        | ((with_reducible refine growx_pre ?_ ?_); (· exact ⟨_, rfl⟩); conv => whnf)
        | ((with_reducible refine needm_of ?_ ?_); (· first | assumption | exact decide_eq_true (by omega) | exact mkOK_of (by decide) | decide +kernel | (refine decide_eq_true ?_; simp (disch := omega) only [i64w]; omega)); conv => whnf)
        | ((with_reducible refine condm_pos ?_ ?_); (· assumption); conv => whnf)
        | ((with_reducible refine condm_neg ?_ ?_); (· assumption); conv => whnf)
        | ((with_reducible refine forceL_fv (by assumption) ?_); conv => whnf)
        | ((with_reducible refine forceL_rfv (by assumption) ?_); conv => whnf)
        | ((with_reducible refine forceNm_of ?_); conv => whnf)
        | ((with_reducible refine needm_of (fv_lenL (by assumption) (by assumption)) ?_); conv => whnf)
        | ((with_reducible refine optm_var (fv_strL (by assumption) (by assumption)) (fun s hs => ?_)); conv => whnf)
        | ((with_reducible refine forceA_of ?_); conv => whnf)
        | ((with_reducible refine forceL_pl (by assumption) ?_); conv => whnf)
        | ((with_reducible refine forceL_rpl (by assumption) ?_); conv => whnf)
        | ((with_reducible refine needm_of ?_ ?_); (· (rw [hxl, hzl]; rfl)); conv => whnf)
        | ((with_reducible refine needm_of ?_ ?_); (· (rw [hxl]; rfl)); conv => whnf)
        | ((with_reducible refine needm_of ?_ ?_); (· (rw [hul, hzl]; rfl)); conv => whnf)
        | ((with_reducible refine needm_of ?_ ?_); (· (rw [hul]; rfl)); conv => whnf)
        | ((with_reducible refine forceL_to (whole_of ?_) ?_); (· rw [hxl]; rfl); conv => whnf)
        | ((with_reducible refine forceL_to (store_all ?_) ?_); (· rw [hxl, hzl]); conv => whnf)
        | ((with_reducible refine forceL_to (store_all ?_) ?_); (· rw [hul, hzl]); conv => whnf)
        | fail)
      exact keepOf (v₀ := .a (.int .i64 220)) [.cells [.int .i64 room, .slc 1 0 L.length cap] 57 false, .cells cs 61 mk] [0, 1] rfl ⟨rfl, ren_pl hp _ _ _, trivial⟩ (by simp [nodupb, baseb, Ob.okb, frmOk, V.okb, A.okb, hp.2] <;> decide) (hK0 (fun h' => h2 h'.2))
    · have hu0 := hu
      rw [List.getElem?_append_left (by omega)] at hu
      have c1 : decide (0 ≤ i ∧ i < (L.length : Int)) = true := decide_eq_true h
      have c2 : decide (0 ≤ j ∧ j < (L.length : Int)) = true := decide_eq_true h2
      conv => whnf
      repeat' (first
        | rw [← hz3]
        | ((with_reducible refine regx_of ?_ ?_); (· decide +kernel); conv => whnf)
        | ((with_reducible refine growx_pre ?_ ?_); (· exact ⟨_, rfl⟩); conv => whnf)
        | ((with_reducible refine needm_of ?_ ?_); (· first | assumption | exact decide_eq_true (by omega) | exact mkOK_of (by decide) | decide +kernel | (refine decide_eq_true ?_; simp (disch := omega) only [i64w]; omega)); conv => whnf)
        | ((with_reducible refine condm_pos ?_ ?_); (· assumption); conv => whnf)
        | ((with_reducible refine condm_neg ?_ ?_); (· assumption); conv => whnf)
        | ((with_reducible refine forceL_fv (by assumption) ?_); conv => whnf)
        | ((with_reducible refine forceL_rfv (by assumption) ?_); conv => whnf)
        | ((with_reducible refine forceNm_of ?_); conv => whnf)
        | ((with_reducible refine needm_of (fv_lenL (by assumption) (by assumption)) ?_); conv => whnf)
        | ((with_reducible refine optm_var (fv_strL (by assumption) (by assumption)) (fun s hs => ?_)); conv => whnf)
        | ((with_reducible refine forceA_of ?_); conv => whnf)
        | ((with_reducible refine forceL_pl (by assumption) ?_); conv => whnf)
        | ((with_reducible refine forceL_rpl (by assumption) ?_); conv => whnf)
        | ((with_reducible refine needm_of ?_ ?_); (· (rw [hxl, hzl]; rfl)); conv => whnf)
        | ((with_reducible refine needm_of ?_ ?_); (· (rw [hxl]; rfl)); conv => whnf)
        | ((with_reducible refine needm_of ?_ ?_); (· (rw [hul, hzl]; rfl)); conv => whnf)
        | ((with_reducible refine needm_of ?_ ?_); (· (rw [hul]; rfl)); conv => whnf)
        | ((with_reducible refine forceL_to (whole_of ?_) ?_); (· rw [hxl]; rfl); conv => whnf)
        | ((with_reducible refine forceL_to (store_all ?_) ?_); (· rw [hxl, hzl]); conv => whnf)
        | ((with_reducible refine forceL_to (store_all ?_) ?_); (· rw [hul, hzl]); conv => whnf)
        | fail)
      have hcl : cs.length = (L ++ y).length * 3 := by rw [hcs, fls_length]
      have hll : (L ++ y).length = L.length + y.length := List.length_append
      refine needm_of (decide_eq_true (by rw [hcl, s61]; omega)) ?_
      conv => whnf
      refine forceL_var (fls_at hcs hu0 (by rw [s61]; omega) (by rw [s61]; omega)) (fun vr hvr => ?_)
      have hvp : Pl vr := by rw [hvr]; exact ⟨fun _ => rfl, fun _ => rfl⟩
      conv => whnf
      repeat' (first
        | rw [← hz3]
        | ((with_reducible refine regx_of ?_ ?_); (· decide +kernel); conv => whnf)
        | ((with_reducible refine growx_pre ?_ ?_); (· exact ⟨_, rfl⟩); conv => whnf)
        | ((with_reducible refine needm_of ?_ ?_); (· first | assumption | exact decide_eq_true (by omega) | exact mkOK_of (by decide) | decide +kernel | (refine decide_eq_true ?_; simp (disch := omega) only [i64w]; omega)); conv => whnf)
        | ((with_reducible refine condm_pos ?_ ?_); (· assumption); conv => whnf)
        | ((with_reducible refine condm_neg ?_ ?_); (· assumption); conv => whnf)
        | ((with_reducible refine forceL_fv (by assumption) ?_); conv => whnf)
        | ((with_reducible refine forceL_rfv (by assumption) ?_); conv => whnf)
        | ((with_reducible refine forceNm_of ?_); conv => whnf)
        | ((with_reducible refine needm_of (fv_lenL (by assumption) (by assumption)) ?_); conv => whnf)
        | ((with_reducible refine optm_var (fv_strL (by assumption) (by assumption)) (fun s hs => ?_)); conv => whnf)
        | ((with_reducible refine forceA_of ?_); conv => whnf)
        | ((with_reducible refine forceL_pl (by assumption) ?_); conv => whnf)
        | ((with_reducible refine forceL_rpl (by assumption) ?_); conv => whnf)
        | ((with_reducible refine needm_of ?_ ?_); (· (rw [hxl, hzl]; rfl)); conv => whnf)
        | ((with_reducible refine needm_of ?_ ?_); (· (rw [hxl]; rfl)); conv => whnf)
        | ((with_reducible refine needm_of ?_ ?_); (· (rw [hul, hzl]; rfl)); conv => whnf)
        | ((with_reducible refine needm_of ?_ ?_); (· (rw [hul]; rfl)); conv => whnf)
        | ((with_reducible refine forceL_to (whole_of ?_) ?_); (· rw [hxl]; rfl); conv => whnf)
        | ((with_reducible refine forceL_to (store_all ?_) ?_); (· rw [hxl, hzl]); conv => whnf)
        | ((with_reducible refine forceL_to (store_all ?_) ?_); (· rw [hul, hzl]); conv => whnf)
        | fail)
      refine needm_of (decide_eq_true (by rw [hcl, s61]; omega)) ?_
      conv => whnf
      repeat' (first
        | rw [← hz3]
        | ((with_reducible refine regx_of ?_ ?_); (· decide +kernel); conv => whnf)
        | ((with_reducible refine growx_pre ?_ ?_); (· exact ⟨_, rfl⟩); conv => whnf)
        | ((with_reducible refine needm_of ?_ ?_); (· first | assumption | exact decide_eq_true (by omega) | exact mkOK_of (by decide) | decide +kernel | (refine decide_eq_true ?_; simp (disch := omega) only [i64w]; omega)); conv => whnf)
        | ((with_reducible refine condm_pos ?_ ?_); (· assumption); conv => whnf)
        | ((with_reducible refine condm_neg ?_ ?_); (· assumption); conv => whnf)
        | ((with_reducible refine forceL_fv (by assumption) ?_); conv => whnf)
        | ((with_reducible refine forceL_rfv (by assumption) ?_); conv => whnf)
        | ((with_reducible refine forceNm_of ?_); conv => whnf)
        | ((with_reducible refine needm_of (fv_lenL (by assumption) (by assumption)) ?_); conv => whnf)
        | ((with_reducible refine optm_var (fv_strL (by assumption) (by assumption)) (fun s hs => ?_)); conv => whnf)
        | ((with_reducible refine forceA_of ?_); conv => whnf)
        | ((with_reducible refine forceL_pl (by assumption) ?_); conv => whnf)
        | ((with_reducible refine forceL_rpl (by assumption) ?_); conv => whnf)
        | ((with_reducible refine needm_of ?_ ?_); (· (rw [hxl, hzl]; rfl)); conv => whnf)
        | ((with_reducible refine needm_of ?_ ?_); (· (rw [hxl]; rfl)); conv => whnf)
        | ((with_reducible refine needm_of ?_ ?_); (· (rw [hul, hzl]; rfl)); conv => whnf)
        | ((with_reducible refine needm_of ?_ ?_); (· (rw [hul]; rfl)); conv => whnf)
        | ((with_reducible refine forceL_to (whole_of ?_) ?_); (· rw [hxl]; rfl); conv => whnf)
        | ((with_reducible refine forceL_to (store_all ?_) ?_); (· rw [hxl, hzl]); conv => whnf)
        | ((with_reducible refine forceL_to (store_all ?_) ?_); (· rw [hul, hzl]); conv => whnf)
        | fail)
      refine forceL_var (fls_at hcs hx0 (by rw [s61]; omega) (by rw [s61]; omega)) (fun wr hwr => ?_)
      have hwp : Pl wr := by rw [hwr]; exact ⟨fun _ => rfl, fun _ => rfl⟩
      have hvl : vr.length = 3 := by rw [hvr]; rfl
      have hwl : wr.length = 3 := by rw [hwr]; rfl
      conv => whnf
      repeat' (first
        | rw [← hz3]
        | ((with_reducible refine regx_of ?_ ?_); (· decide +kernel); conv => whnf)
        | ((with_reducible refine growx_pre ?_ ?_); (· exact ⟨_, rfl⟩); conv => whnf)
        | ((with_reducible refine needm_of ?_ ?_); (· first | assumption | exact decide_eq_true (by omega) | exact mkOK_of (by decide) | decide +kernel | (refine decide_eq_true ?_; simp (disch := omega) only [i64w]; omega)); conv => whnf)
        | ((with_reducible refine condm_pos ?_ ?_); (· assumption); conv => whnf)
        | ((with_reducible refine condm_neg ?_ ?_); (· assumption); conv => whnf)
        | ((with_reducible refine forceL_fv (by assumption) ?_); conv => whnf)
        | ((with_reducible refine forceL_rfv (by assumption) ?_); conv => whnf)
        | ((with_reducible refine forceNm_of ?_); conv => whnf)
        | ((with_reducible refine needm_of (fv_lenL (by assumption) (by assumption)) ?_); conv => whnf)
        | ((with_reducible refine optm_var (fv_strL (by assumption) (by assumption)) (fun s hs => ?_)); conv => whnf)
        | ((with_reducible refine forceA_of ?_); conv => whnf)
        | ((with_reducible refine forceL_pl (by assumption) ?_); conv => whnf)
        | ((with_reducible refine forceL_rpl (by assumption) ?_); conv => whnf)
        | ((with_reducible refine needm_of ?_ ?_); (· (rw [hxl, hzl]; rfl)); conv => whnf)
        | ((with_reducible refine needm_of ?_ ?_); (· (rw [hxl]; rfl)); conv => whnf)
        | ((with_reducible refine needm_of ?_ ?_); (· (rw [hul, hzl]; rfl)); conv => whnf)
        | ((with_reducible refine needm_of ?_ ?_); (· (rw [hul]; rfl)); conv => whnf)
        | ((with_reducible refine forceL_to (whole_of ?_) ?_); (· rw [hxl]; rfl); conv => whnf)
        | ((with_reducible refine forceL_to (store_all ?_) ?_); (· rw [hxl, hzl]); conv => whnf)
        | ((with_reducible refine forceL_to (store_all ?_) ?_); (· rw [hul, hzl]); conv => whnf)
        | fail)
      refine needm_of (Bool.and_eq_true_iff.2 ⟨by rw [hvl]; rfl, decide_eq_true (by rw [hvl, hcl, s61]; omega)⟩) ?_
      conv => whnf
      repeat' (first
        | rw [← hz3]
        | ((with_reducible refine regx_of ?_ ?_); (· decide +kernel); conv => whnf)
        | ((with_reducible refine growx_pre ?_ ?_); (· exact ⟨_, rfl⟩); conv => whnf)
        | ((with_reducible refine needm_of ?_ ?_); (· first | assumption | exact decide_eq_true (by omega) | exact mkOK_of (by decide) | decide +kernel | (refine decide_eq_true ?_; simp (disch := omega) only [i64w]; omega)); conv => whnf)
        | ((with_reducible refine condm_pos ?_ ?_); (· assumption); conv => whnf)
        | ((with_reducible refine condm_neg ?_ ?_); (· assumption); conv => whnf)
        | ((with_reducible refine forceL_fv (by assumption) ?_); conv => whnf)
        | ((with_reducible refine forceL_rfv (by assumption) ?_); conv => whnf)
        | ((with_reducible refine forceNm_of ?_); conv => whnf)
        | ((with_reducible refine needm_of (fv_lenL (by assumption) (by assumption)) ?_); conv => whnf)
        | ((with_reducible refine optm_var (fv_strL (by assumption) (by assumption)) (fun s hs => ?_)); conv => whnf)
        | ((with_reducible refine forceA_of ?_); conv => whnf)
        | ((with_reducible refine forceL_pl (by assumption) ?_); conv => whnf)
        | ((with_reducible refine forceL_rpl (by assumption) ?_); conv => whnf)
        | ((with_reducible refine needm_of ?_ ?_); (· (rw [hxl, hzl]; rfl)); conv => whnf)
        | ((with_reducible refine needm_of ?_ ?_); (· (rw [hxl]; rfl)); conv => whnf)
        | ((with_reducible refine needm_of ?_ ?_); (· (rw [hul, hzl]; rfl)); conv => whnf)
        | ((with_reducible refine needm_of ?_ ?_); (· (rw [hul]; rfl)); conv => whnf)
        | ((with_reducible refine forceL_to (whole_of ?_) ?_); (· rw [hxl]; rfl); conv => whnf)
        | ((with_reducible refine forceL_to (store_all ?_) ?_); (· rw [hxl, hzl]); conv => whnf)
        | ((with_reducible refine forceL_to (store_all ?_) ?_); (· rw [hul, hzl]); conv => whnf)
        | fail)
      refine forceL_var (l' := fls (L.set i.toNat u ++ y)) (by rw [hvr, fls_put hcs (i := i.toNat) (by omega) u (by rw [s61]; omega), List.set_append_left _ _ (by omega)]) (fun cs1 hcs1 => ?_)
      have hp1 := Pl.fls hcs1
      conv => whnf
      repeat' (first
        | rw [← hz3]
        | ((with_reducible refine regx_of ?_ ?_); (· decide +kernel); conv => whnf)
        | ((with_reducible refine growx_pre ?_ ?_); (· exact ⟨_, rfl⟩); conv => whnf)
        | ((with_reducible refine needm_of ?_ ?_); (· first | assumption | exact decide_eq_true (by omega) | exact mkOK_of (by decide) | decide +kernel | (refine decide_eq_true ?_; simp (disch := omega) only [i64w]; omega)); conv => whnf)
        | ((with_reducible refine condm_pos ?_ ?_); (· assumption); conv => whnf)
        | ((with_reducible refine condm_neg ?_ ?_); (· assumption); conv => whnf)
        | ((with_reducible refine forceL_fv (by assumption) ?_); conv => whnf)
        | ((with_reducible refine forceL_rfv (by assumption) ?_); conv => whnf)
        | ((with_reducible refine forceNm_of ?_); conv => whnf)
        | ((with_reducible refine needm_of (fv_lenL (by assumption) (by assumption)) ?_); conv => whnf)
        | ((with_reducible refine optm_var (fv_strL (by assumption) (by assumption)) (fun s hs => ?_)); conv => whnf)
        | ((with_reducible refine forceA_of ?_); conv => whnf)
        | ((with_reducible refine forceL_pl (by assumption) ?_); conv => whnf)
        | ((with_reducible refine forceL_rpl (by assumption) ?_); conv => whnf)
        | ((with_reducible refine needm_of ?_ ?_); (· (rw [hxl, hzl]; rfl)); conv => whnf)
        | ((with_reducible refine needm_of ?_ ?_); (· (rw [hxl]; rfl)); conv => whnf)
        | ((with_reducible refine needm_of ?_ ?_); (· (rw [hul, hzl]; rfl)); conv => whnf)
        | ((with_reducible refine needm_of ?_ ?_); (· (rw [hul]; rfl)); conv => whnf)
        | ((with_reducible refine forceL_to (whole_of ?_) ?_); (· rw [hxl]; rfl); conv => whnf)
        | ((with_reducible refine forceL_to (store_all ?_) ?_); (· rw [hxl, hzl]); conv => whnf)
        | ((with_reducible refine forceL_to (store_all ?_) ?_); (· rw [hul, hzl]); conv => whnf)
        | fail)
      have hl1 : (L.set i.toNat u).length = L.length := List.length_set
      have hcl1 : cs1.length = (L.length + y.length) * 3 := by rw [hcs1, fls_length, List.length_append, hl1]
      refine needm_of (Bool.and_eq_true_iff.2 ⟨by rw [hwl]; rfl, decide_eq_true (by rw [hwl, hcl1, s61]; omega)⟩) ?_
      conv => whnf
      repeat' (first
        | rw [← hz3]
        | ((with_reducible refine regx_of ?_ ?_); (· decide +kernel); conv => whnf)
        | ((with_reducible refine growx_pre ?_ ?_); (· exact ⟨_, rfl⟩); conv => whnf)
        | ((with_reducible refine needm_of ?_ ?_); (· first | assumption | exact decide_eq_true (by omega) | exact mkOK_of (by decide) | decide +kernel | (refine decide_eq_true ?_; simp (disch := omega) only [i64w]; omega)); conv => whnf)
        | ((with_reducible refine condm_pos ?_ ?_); (· assumption); conv => whnf)
        | ((with_reducible refine condm_neg ?_ ?_); (· assumption); conv => whnf)
        | ((with_reducible refine forceL_fv (by assumption) ?_); conv => whnf)
        | ((with_reducible refine forceL_rfv (by assumption) ?_); conv => whnf)
        | ((with_reducible refine forceNm_of ?_); conv => whnf)
        | ((with_reducible refine needm_of (fv_lenL (by assumption) (by assumption)) ?_); conv => whnf)
        | ((with_reducible refine optm_var (fv_strL (by assumption) (by assumption)) (fun s hs => ?_)); conv => whnf)
        | ((with_reducible refine forceA_of ?_); conv => whnf)
        | ((with_reducible refine forceL_pl (by assumption) ?_); conv => whnf)
        | ((with_reducible refine forceL_rpl (by assumption) ?_); conv => whnf)
        | ((with_reducible refine needm_of ?_ ?_); (· (rw [hxl, hzl]; rfl)); conv => whnf)
        | ((with_reducible refine needm_of ?_ ?_); (· (rw [hxl]; rfl)); conv => whnf)
        | ((with_reducible refine needm_of ?_ ?_); (· (rw [hul, hzl]; rfl)); conv => whnf)
        | ((with_reducible refine needm_of ?_ ?_); (· (rw [hul]; rfl)); conv => whnf)
        | ((with_reducible refine forceL_to (whole_of ?_) ?_); (· rw [hxl]; rfl); conv => whnf)
        | ((with_reducible refine forceL_to (store_all ?_) ?_); (· rw [hxl, hzl]); conv => whnf)
        | ((with_reducible refine forceL_to (store_all ?_) ?_); (· rw [hul, hzl]); conv => whnf)
        | fail)
      refine forceL_var (l' := fls ((L.set i.toNat u).set j.toNat x ++ y)) (by rw [hwr, fls_put hcs1 (i := j.toNat) (by rw [List.length_append, hl1]; omega) x (by rw [s61]; omega), List.set_append_left _ _ (by omega)]) (fun cs2 hcs2 => ?_)
      have hp2 := Pl.fls hcs2
      conv => whnf
      repeat' (first
        | rw [← hz3]
        | ((with_reducible refine regx_of ?_ ?_); (· decide +kernel); conv => whnf)
        | ((with_reducible refine growx_pre ?_ ?_); (· exact ⟨_, rfl⟩); conv => whnf)
        | ((with_reducible refine needm_of ?_ ?_); (· first | assumption | exact decide_eq_true (by omega) | exact mkOK_of (by decide) | decide +kernel | (refine decide_eq_true ?_; simp (disch := omega) only [i64w]; omega)); conv => whnf)
        | ((with_reducible refine condm_pos ?_ ?_); (· assumption); conv => whnf)
        | ((with_reducible refine condm_neg ?_ ?_); (· assumption); conv => whnf)
        | ((with_reducible refine forceL_fv (by assumption) ?_); conv => whnf)
        | ((with_reducible refine forceL_rfv (by assumption) ?_); conv => whnf)
        | ((with_reducible refine forceNm_of ?_); conv => whnf)
        | ((with_reducible refine needm_of (fv_lenL (by assumption) (by assumption)) ?_); conv => whnf)
        | ((with_reducible refine optm_var (fv_strL (by assumption) (by assumption)) (fun s hs => ?_)); conv => whnf)
        | ((with_reducible refine forceA_of ?_); conv => whnf)
        | ((with_reducible refine forceL_pl (by assumption) ?_); conv => whnf)
        | ((with_reducible refine forceL_rpl (by assumption) ?_); conv => whnf)
        | ((with_reducible refine needm_of ?_ ?_); (· (rw [hxl, hzl]; rfl)); conv => whnf)
        | ((with_reducible refine needm_of ?_ ?_); (· (rw [hxl]; rfl)); conv => whnf)
        | ((with_reducible refine needm_of ?_ ?_); (· (rw [hul, hzl]; rfl)); conv => whnf)
        | ((with_reducible refine needm_of ?_ ?_); (· (rw [hul]; rfl)); conv => whnf)
        | ((with_reducible refine forceL_to (whole_of ?_) ?_); (· rw [hxl]; rfl); conv => whnf)
        | ((with_reducible refine forceL_to (store_all ?_) ?_); (· rw [hxl, hzl]); conv => whnf)
        | ((with_reducible refine forceL_to (store_all ?_) ?_); (· rw [hul, hzl]); conv => whnf)
        | fail)
      exact keepOf (v₀ := .a (.int .i64 0)) [.cells [.int .i64 room, .slc 1 0 L.length cap] 57 false, .cells cs2 61 mk] [0, 1] rfl ⟨rfl, ren_pl hp2 _ _ _, trivial⟩ (by simp [nodupb, baseb, Ob.okb, frmOk, V.okb, A.okb, hp2.2] <;> decide) (hK1 x u hx hu h h2 cs2 hcs2)
end
end Go.Proofs.Ytkggpkgnkppceaa.LK
