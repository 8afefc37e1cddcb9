import Derived.Test.YtkggpkgnkppceaaMF
namespace Go.Proofs.Ytkggpkgnkppceaa.LK
open Go.Eng
set_option maxRecDepth 100000
/-- A row in its block. -/
def Nt (L : List Fl) (cs : List A) (cap : Nat) : Prop := ∃ y, cs = fls (L ++ y) ∧ cap = L.length + y.length
theorem Nt.pl {L : List Fl} {cs : List A} {cap : Nat} (h : Nt L cs cap) : Pl cs := by
  obtain ⟨y, h, _⟩ := h
  exact Pl.fls h
section
variable {ro : Addr → A → Prop}
set_option maxHeartbeats 1000000 in
theorem all20 (room : Int) (L : List Fl) (n cap1 cap2 : Nat) (cs1 cs2 : List A) (mk1 mk2 : Bool) (hn : n = L.length) (hL : n ≤ 1024) (N1 : Nt L cs1 cap1) (N2 : Nt L cs2 cap2) {K : V → Hp → Prop}
    (hK : K (.a (.bool true)) [.cells [.int .i64 room, .slc 1 0 n cap1] 57 false, .cells cs1 61 mk1, .cells [.int .i64 room, .slc 3 0 n cap2] 47 false, .cells cs2 69 mk2]) :
    Go.Eng.Fn Try.prog ro 20 [.a (.ptr 0 0), .a (.ptr 2 0)] [.cells [.int .i64 room, .slc 1 0 n cap1] 57 false, .cells cs1 61 mk1, .cells [.int .i64 room, .slc 3 0 n cap2] 47 false, .cells cs2 69 mk2] K := by
  have h1 := N1.pl
  have h2 := N2.pl
  obtain ⟨y1, e1, _⟩ := N1
  obtain ⟨y2, e2, _⟩ := N2
  obtain ⟨z3, hz3⟩ : ∃ z : List A, z = [.int .u8 0, .int .u8 0, .str { data := #[] }] := ⟨_, rfl⟩
  have hzp : Pl z3 := by rw [hz3]; exact ⟨fun _ => rfl, fun _ => rfl⟩
  have hzl : z3.length = 3 := by rw [hz3]; rfl
  have hrz : repl z3 (1 * Try.prog.types[69].size) = z3 := by rw [hz3]; rfl
  refine Go.Eng.Fn.weak ?_
  refine Go.Eng.Fn.of 4 MT.h20 rfl Try.func20 rfl (Nat.le_of_ble_eq_true rfl) ?_
  conv => whnf
  repeat' (first
    | ((with_reducible refine regx_of ?_ ?_); (· decide +kernel); conv => whnf)
    | ((with_reducible refine growx_pre ?_ ?_); (· exact ⟨_, rfl⟩); conv => whnf)
    | ((with_reducible refine needm_of ?_ ?_); (· first | assumption | exact decide_eq_true (by omega) | exact mkOK_of (by decide) | decide +kernel | (refine decide_eq_true ?_; simp (disch := omega) only [i64w]; omega)); conv => whnf)
    | ((with_reducible refine condm_pos ?_ ?_); (· assumption); conv => whnf)
    | ((with_reducible refine condm_neg ?_ ?_); (· assumption); conv => whnf)
    | ((with_reducible refine forceL_fv (by assumption) ?_); conv => whnf)
    | ((with_reducible refine forceL_rfv (by assumption) ?_); conv => whnf)
    | ((with_reducible refine forceNm_of ?_); conv => whnf)
    | ((with_reducible refine needm_of (fv_lenL (by assumption) (by assumption)) ?_); conv => whnf)
    | ((with_reducible refine optm_var (fv_strL (by assumption) (by assumption)) (fun s hs => ?_)); conv => whnf)
    | ((with_reducible refine forceA_of ?_); conv => whnf)
    | ((with_reducible refine forceL_pl (by assumption) ?_); conv => whnf)
    | ((with_reducible refine forceL_rpl (by assumption) ?_); conv => whnf)
    | fail)
  refine Go.Eng.Fn.frame [0, 1] (by rfl) (by exact ⟨rfl, ren_pl h1 _ _ _, trivial⟩) (by simp [nodupb, V.okb, A.okb, Ob.okb, h1.2] <;> decide) (len14 room n cap1 cs1 h1 mk1 ?_)
  have c0 : ((n : Int) != (n : Int)) = false := by simp
  refine growx_pre (by simp [plugL, Ob.ren, h1.1, A.ren, frD]) ?_
  conv => whnf
  repeat' (first
    | ((with_reducible refine regx_of ?_ ?_); (· decide +kernel); conv => whnf)
    | ((with_reducible refine growx_pre ?_ ?_); (· exact ⟨_, rfl⟩); conv => whnf)
    | ((with_reducible refine needm_of ?_ ?_); (· first | assumption | exact decide_eq_true (by omega) | exact mkOK_of (by decide) | decide +kernel | (refine decide_eq_true ?_; simp (disch := omega) only [i64w]; omega)); conv => whnf)
    | ((with_reducible refine condm_pos ?_ ?_); (· assumption); conv => whnf)
    | ((with_reducible refine condm_neg ?_ ?_); (· assumption); conv => whnf)
    | ((with_reducible refine forceL_fv (by assumption) ?_); conv => whnf)
    | ((with_reducible refine forceL_rfv (by assumption) ?_); conv => whnf)
    | ((with_reducible refine forceNm_of ?_); conv => whnf)
    | ((with_reducible refine needm_of (fv_lenL (by assumption) (by assumption)) ?_); conv => whnf)
    | ((with_reducible refine optm_var (fv_strL (by assumption) (by assumption)) (fun s hs => ?_)); conv => whnf)
    | ((with_reducible refine forceA_of ?_); conv => whnf)
    | ((with_reducible refine forceL_pl (by assumption) ?_); conv => whnf)
    | ((with_reducible refine forceL_rpl (by assumption) ?_); conv => whnf)
    | fail)
  refine loopx_of (fun q F H => ∃ (k : Nat) (i : Int), i = (k : Int) - 1 ∧ k ≤ n + 2 ∧ q = n + 2 - k ∧ F = [(0, .a (.ptr 0 0)), (1, .a (.ptr 2 0)), (5, .a (.int .i64 i))] ∧ H = [.cells [.int .i64 room, .slc 1 0 n cap1] 57 false, .cells cs1 61 mk1, .cells [.int .i64 room, .slc 3 0 n cap2] 47 false, .cells cs2 69 mk2]) (n + 2) ?_ ?_
  · exact Into.weak [0, 1, 2, 3] _ [.cells [.int .i64 room, .slc 1 0 n cap1] 57 false, .cells cs1 61 mk1, .cells [.int .i64 room, .slc 3 0 n cap2] 47 false, .cells cs2 69 mk2] ⟨0, -1, rfl, by omega, rfl, rfl, rfl⟩ ⟨rfl, rfl, rfl, trivial⟩ ⟨rfl, ren_pl h1 _ _ _, rfl, ren_pl h2 _ _ _, trivial⟩ (by simp [nodupb, baseb, Ob.okb, frmOk, V.okb, A.okb, h1.2, h2.2] <;> decide)
  · rintro q F H ⟨k, i, hi, hk, rfl, rfl, rfl⟩
    by_cases hkn : k < n + 2
    · have c1 : decide (i ≤ (n : Int)) = true := decide_eq_true (by omega)
      have hw : IntKind.i64.wrap (i + 1) = i + 1 := by rw [i64w (by omega) (by omega)]
      conv => whnf
      repeat' (first
        | ((with_reducible refine regx_of ?_ ?_); (· decide +kernel); conv => whnf)
        | ((with_reducible refine growx_pre ?_ ?_); (· exact ⟨_, rfl⟩); conv => whnf)
        | ((with_reducible refine needm_of ?_ ?_); (· first | assumption | exact decide_eq_true (by omega) | exact mkOK_of (by decide) | decide +kernel | (refine decide_eq_true ?_; simp (disch := omega) only [i64w]; omega)); conv => whnf)
        | ((with_reducible refine condm_pos ?_ ?_); (· assumption); conv => whnf)
        | ((with_reducible refine condm_neg ?_ ?_); (· assumption); conv => whnf)
        | ((with_reducible refine forceL_fv (by assumption) ?_); conv => whnf)
        | ((with_reducible refine forceL_rfv (by assumption) ?_); conv => whnf)
        | ((with_reducible refine forceNm_of ?_); conv => whnf)
        | ((with_reducible refine needm_of (fv_lenL (by assumption) (by assumption)) ?_); conv => whnf)
        | ((with_reducible refine optm_var (fv_strL (by assumption) (by assumption)) (fun s hs => ?_)); conv => whnf)
        | ((with_reducible refine forceA_of ?_); conv => whnf)
        | ((with_reducible refine forceL_pl (by assumption) ?_); conv => whnf)
        | ((with_reducible refine forceL_rpl (by assumption) ?_); conv => whnf)
        | fail)
      refine Go.Eng.Fn.frame [2, 3] (by rfl) (by exact ⟨rfl, ren_pl h2 _ _ _, trivial⟩) (by simp [nodupb, V.okb, A.okb, Ob.okb, h2.2] <;> decide) (look29 room i n cap2 cs2 (L ++ y2) e2 (by rw [List.length_append]; omega) mk2 (fun h xr hxr => ?_) (fun x hx h xr hxr => ?_))
      all_goals
        have hxp : Pl xr := by rw [hxr]; exact ⟨fun _ => rfl, fun _ => rfl⟩
        have hxl : xr.length = 3 := by rw [hxr]; rfl
        conv => whnf
        repeat' (first
          | rw [← hz3]
          | rw [hrz]
          | rw [Nat.zero_mul Try.prog.types[69].size]
          | ((with_reducible refine regx_of ?_ ?_); (· decide +kernel); conv => whnf)
          | ((with_reducible refine growx_pre ?_ ?_); (· exact ⟨_, rfl⟩); conv => whnf)
          | ((with_reducible refine needm_of ?_ ?_); (· first | assumption | exact decide_eq_true (by omega) | exact mkOK_of (by decide) | decide +kernel | (refine decide_eq_true ?_; simp (disch := omega) only [i64w]; omega)); conv => whnf)
          | ((with_reducible refine condm_pos ?_ ?_); (· assumption); conv => whnf)
          | ((with_reducible refine condm_neg ?_ ?_); (· assumption); conv => whnf)
          | ((with_reducible refine forceL_fv (by assumption) ?_); conv => whnf)
          | ((with_reducible refine forceL_rfv (by assumption) ?_); conv => whnf)
          | ((with_reducible refine forceNm_of ?_); conv => whnf)
          | ((with_reducible refine needm_of (fv_lenL (by assumption) (by assumption)) ?_); conv => whnf)
          | ((with_reducible refine optm_var (fv_strL (by assumption) (by assumption)) (fun s hs => ?_)); conv => whnf)
          | ((with_reducible refine forceA_of ?_); conv => whnf)
          | ((with_reducible refine forceL_pl (by assumption) ?_); conv => whnf)
          | ((with_reducible refine forceL_rpl (by assumption) ?_); conv => whnf)
          | ((with_reducible refine needm_of ?_ ?_); (· first | (rw [hxl, hzl]; rfl) | (rw [hxl]; rfl)); conv => whnf)
          | ((with_reducible refine forceL_to (whole_of ?_) ?_); (· rw [hxl]; rfl); conv => whnf)
          | ((with_reducible refine forceL_to (store_all ?_) ?_); (· first | rw [hxl, hzl] | rfl); conv => whnf)
          | fail)
      · refine Go.Eng.Fn.frame [0, 1] (by rfl) (by exact ⟨rfl, ren_pl h1 _ _ _, trivial⟩) (by simp [nodupb, V.okb, A.okb, Ob.okb, h1.2] <;> decide) (look15 room i n cap1 cs1 (L ++ y1) e1 (by rw [List.length_append]; omega) mk1 (fun _ => ?_) (fun x hx h' => absurd h' h))
        conv => whnf
        repeat' (first
          | rw [← hz3]
          | rw [hrz]
          | rw [Nat.zero_mul Try.prog.types[69].size]
          | ((with_reducible refine regx_of ?_ ?_); (· decide +kernel); conv => whnf)
          | ((with_reducible refine growx_pre ?_ ?_); (· exact ⟨_, rfl⟩); conv => whnf)
          | ((with_reducible refine needm_of ?_ ?_); (· first | assumption | exact decide_eq_true (by omega) | exact mkOK_of (by decide) | decide +kernel | (refine decide_eq_true ?_; simp (disch := omega) only [i64w]; omega)); conv => whnf)
          | ((with_reducible refine condm_pos ?_ ?_); (· assumption); conv => whnf)
          | ((with_reducible refine condm_neg ?_ ?_); (· assumption); conv => whnf)
          | ((with_reducible refine forceL_fv (by assumption) ?_); conv => whnf)
          | ((with_reducible refine forceL_rfv (by assumption) ?_); conv => whnf)
          | ((with_reducible refine forceNm_of ?_); conv => whnf)
          | ((with_reducible refine needm_of (fv_lenL (by assumption) (by assumption)) ?_); conv => whnf)
          | ((with_reducible refine optm_var (fv_strL (by assumption) (by assumption)) (fun s hs => ?_)); conv => whnf)
          | ((with_reducible refine forceA_of ?_); conv => whnf)
          | ((with_reducible refine forceL_pl (by assumption) ?_); conv => whnf)
          | ((with_reducible refine forceL_rpl (by assumption) ?_); conv => whnf)
          | ((with_reducible refine needm_of ?_ ?_); (· first | (rw [hxl, hzl]; rfl) | (rw [hxl]; rfl)); conv => whnf)
          | ((with_reducible refine forceL_to (whole_of ?_) ?_); (· rw [hxl]; rfl); conv => whnf)
          | ((with_reducible refine forceL_to (store_all ?_) ?_); (· first | rw [hxl, hzl] | rfl); conv => whnf)
          | fail)
        refine Go.Eng.Fn.frame [] (by show [_, _, _, _, V.g (xr.map (A.ren _)), _] = _; rw [hxp.1]; rfl) (by exact trivial) (by simp [nodupb, V.okb, A.okb, hxp.2] <;> decide) (told30 z0 xr hxr 220 ?_)
        conv => whnf
        repeat' (first
          | rw [← hz3]
          | rw [hrz]
          | rw [Nat.zero_mul Try.prog.types[69].size]
          | ((with_reducible refine regx_of ?_ ?_); (· decide +kernel); conv => whnf)
          | ((with_reducible refine growx_pre ?_ ?_); (· exact ⟨_, rfl⟩); conv => whnf)
          | ((with_reducible refine needm_of ?_ ?_); (· first | assumption | exact decide_eq_true (by omega) | exact mkOK_of (by decide) | decide +kernel | (refine decide_eq_true ?_; simp (disch := omega) only [i64w]; omega)); conv => whnf)
          | ((with_reducible refine condm_pos ?_ ?_); (· assumption); conv => whnf)
          | ((with_reducible refine condm_neg ?_ ?_); (· assumption); conv => whnf)
          | ((with_reducible refine forceL_fv (by assumption) ?_); conv => whnf)
          | ((with_reducible refine forceL_rfv (by assumption) ?_); conv => whnf)
          | ((with_reducible refine forceNm_of ?_); conv => whnf)
          | ((with_reducible refine needm_of (fv_lenL (by assumption) (by assumption)) ?_); conv => whnf)
          | ((with_reducible refine optm_var (fv_strL (by assumption) (by assumption)) (fun s hs => ?_)); conv => whnf)
          | ((with_reducible refine forceA_of ?_); conv => whnf)
          | ((with_reducible refine forceL_pl (by assumption) ?_); conv => whnf)
          | ((with_reducible refine forceL_rpl (by assumption) ?_); conv => whnf)
          | ((with_reducible refine needm_of ?_ ?_); (· first | (rw [hxl, hzl]; rfl) | (rw [hxl]; rfl)); conv => whnf)
          | ((with_reducible refine forceL_to (whole_of ?_) ?_); (· rw [hxl]; rfl); conv => whnf)
          | ((with_reducible refine forceL_to (store_all ?_) ?_); (· first | rw [hxl, hzl] | rfl); conv => whnf)
          | fail)
        exact ⟨n + 2 - (k + 1), by omega, Into.weak [0, 1, 2, 3] _ [.cells [.int .i64 room, .slc 1 0 n cap1] 57 false, .cells cs1 61 mk1, .cells [.int .i64 room, .slc 3 0 n cap2] 47 false, .cells cs2 69 mk2] ⟨k + 1, i + 1, by omega, by omega, rfl, rfl, rfl⟩ ⟨rfl, rfl, congrArg (fun z => some (V.a (.int .i64 z))) hw, trivial⟩ ⟨rfl, ren_pl h1 _ _ _, rfl, ren_pl h2 _ _ _, trivial⟩ (by simp [nodupb, baseb, Ob.okb, frmOk, V.okb, A.okb, h1.2, h2.2] <;> decide)⟩
      · refine Go.Eng.Fn.frame [0, 1] (by rfl) (by exact ⟨rfl, ren_pl h1 _ _ _, trivial⟩) (by simp [nodupb, V.okb, A.okb, Ob.okb, h1.2] <;> decide) (look15 room i n cap1 cs1 (L ++ y1) e1 (by rw [List.length_append]; omega) mk1 (fun h' => absurd h h') (fun x' hx' _ => ?_))
        obtain rfl : x = x' := by
          rw [List.getElem?_append_left (by omega)] at hx hx'
          rw [hx] at hx'; injection hx'
        conv => whnf
        repeat' (first
          | rw [← hz3]
          | rw [hrz]
          | rw [Nat.zero_mul Try.prog.types[69].size]
          | ((with_reducible refine regx_of ?_ ?_); (· decide +kernel); conv => whnf)
          | ((with_reducible refine growx_pre ?_ ?_); (· exact ⟨_, rfl⟩); conv => whnf)
          | ((with_reducible refine needm_of ?_ ?_); (· first | assumption | exact decide_eq_true (by omega) | exact mkOK_of (by decide) | decide +kernel | (refine decide_eq_true ?_; simp (disch := omega) only [i64w]; omega)); conv => whnf)
          | ((with_reducible refine condm_pos ?_ ?_); (· assumption); conv => whnf)
          | ((with_reducible refine condm_neg ?_ ?_); (· assumption); conv => whnf)
          | ((with_reducible refine forceL_fv (by assumption) ?_); conv => whnf)
          | ((with_reducible refine forceL_rfv (by assumption) ?_); conv => whnf)
          | ((with_reducible refine forceNm_of ?_); conv => whnf)
          | ((with_reducible refine needm_of (fv_lenL (by assumption) (by assumption)) ?_); conv => whnf)
          | ((with_reducible refine optm_var (fv_strL (by assumption) (by assumption)) (fun s hs => ?_)); conv => whnf)
          | ((with_reducible refine forceA_of ?_); conv => whnf)
          | ((with_reducible refine forceL_pl (by assumption) ?_); conv => whnf)
          | ((with_reducible refine forceL_rpl (by assumption) ?_); conv => whnf)
          | ((with_reducible refine needm_of ?_ ?_); (· first | (rw [hxl, hzl]; rfl) | (rw [hxl]; rfl)); conv => whnf)
          | ((with_reducible refine forceL_to (whole_of ?_) ?_); (· rw [hxl]; rfl); conv => whnf)
          | ((with_reducible refine forceL_to (store_all ?_) ?_); (· first | rw [hxl, hzl] | rfl); conv => whnf)
          | fail)
        refine Go.Eng.Fn.frame [] (by show [_, _, _, _, V.g (xr.map (A.ren _)), _] = _; rw [hxp.1]; rfl) (by exact trivial) (by simp [nodupb, V.okb, A.okb, hxp.2] <;> decide) (told30 x xr hxr 0 ?_)
        conv => whnf
        repeat' (first
          | rw [← hz3]
          | rw [hrz]
          | rw [Nat.zero_mul Try.prog.types[69].size]
          | ((with_reducible refine regx_of ?_ ?_); (· decide +kernel); conv => whnf)
          | ((with_reducible refine growx_pre ?_ ?_); (· exact ⟨_, rfl⟩); conv => whnf)
          | ((with_reducible refine needm_of ?_ ?_); (· first | assumption | exact decide_eq_true (by omega) | exact mkOK_of (by decide) | decide +kernel | (refine decide_eq_true ?_; simp (disch := omega) only [i64w]; omega)); conv => whnf)
          | ((with_reducible refine condm_pos ?_ ?_); (· assumption); conv => whnf)
          | ((with_reducible refine condm_neg ?_ ?_); (· assumption); conv => whnf)
          | ((with_reducible refine forceL_fv (by assumption) ?_); conv => whnf)
          | ((with_reducible refine forceL_rfv (by assumption) ?_); conv => whnf)
          | ((with_reducible refine forceNm_of ?_); conv => whnf)
          | ((with_reducible refine needm_of (fv_lenL (by assumption) (by assumption)) ?_); conv => whnf)
          | ((with_reducible refine optm_var (fv_strL (by assumption) (by assumption)) (fun s hs => ?_)); conv => whnf)
          | ((with_reducible refine forceA_of ?_); conv => whnf)
          | ((with_reducible refine forceL_pl (by assumption) ?_); conv => whnf)
          | ((with_reducible refine forceL_rpl (by assumption) ?_); conv => whnf)
          | ((with_reducible refine needm_of ?_ ?_); (· first | (rw [hxl, hzl]; rfl) | (rw [hxl]; rfl)); conv => whnf)
          | ((with_reducible refine forceL_to (whole_of ?_) ?_); (· rw [hxl]; rfl); conv => whnf)
          | ((with_reducible refine forceL_to (store_all ?_) ?_); (· first | rw [hxl, hzl] | rfl); conv => whnf)
          | fail)
        exact ⟨n + 2 - (k + 1), by omega, Into.weak [0, 1, 2, 3] _ [.cells [.int .i64 room, .slc 1 0 n cap1] 57 false, .cells cs1 61 mk1, .cells [.int .i64 room, .slc 3 0 n cap2] 47 false, .cells cs2 69 mk2] ⟨k + 1, i + 1, by omega, by omega, rfl, rfl, rfl⟩ ⟨rfl, rfl, congrArg (fun z => some (V.a (.int .i64 z))) hw, trivial⟩ ⟨rfl, ren_pl h1 _ _ _, rfl, ren_pl h2 _ _ _, trivial⟩ (by simp [nodupb, baseb, Ob.okb, frmOk, V.okb, A.okb, h1.2, h2.2] <;> decide)⟩
    · have c1 : decide (i ≤ (n : Int)) = false := decide_eq_false (by omega)
      conv => whnf
      repeat' (first
        | ((with_reducible refine regx_of ?_ ?_); (· decide +kernel); conv => whnf)
        | ((with_reducible refine growx_pre ?_ ?_); (· exact ⟨_, rfl⟩); conv => whnf)
        | ((with_reducible refine needm_of ?_ ?_); (· first | assumption | exact decide_eq_true (by omega) | exact mkOK_of (by decide) | decide +kernel | (refine decide_eq_true ?_; simp (disch := omega) only [i64w]; omega)); conv => whnf)
        | ((with_reducible refine condm_pos ?_ ?_); (· assumption); conv => whnf)
        | ((with_reducible refine condm_neg ?_ ?_); (· assumption); conv => whnf)
        | ((with_reducible refine forceL_fv (by assumption) ?_); conv => whnf)
        | ((with_reducible refine forceL_rfv (by assumption) ?_); conv => whnf)
        | ((with_reducible refine forceNm_of ?_); conv => whnf)
        | ((with_reducible refine needm_of (fv_lenL (by assumption) (by assumption)) ?_); conv => whnf)
        | ((with_reducible refine optm_var (fv_strL (by assumption) (by assumption)) (fun s hs => ?_)); conv => whnf)
        | ((with_reducible refine forceA_of ?_); conv => whnf)
        | ((with_reducible refine forceL_pl (by assumption) ?_); conv => whnf)
        | ((with_reducible refine forceL_rpl (by assumption) ?_); conv => whnf)
        | fail)
      exact keepOf (v₀ := .a (.bool true)) [.cells [.int .i64 room, .slc 1 0 n cap1] 57 false, .cells cs1 61 mk1, .cells [.int .i64 room, .slc 3 0 n cap2] 47 false, .cells cs2 69 mk2] [0, 1, 2, 3] rfl ⟨rfl, ren_pl h1 _ _ _, rfl, ren_pl h2 _ _ _, trivial⟩ (by simp [nodupb, baseb, Ob.okb, frmOk, V.okb, A.okb, h1.2, h2.2] <;> decide) hK
end
end Go.Proofs.Ytkggpkgnkppceaa.LK
