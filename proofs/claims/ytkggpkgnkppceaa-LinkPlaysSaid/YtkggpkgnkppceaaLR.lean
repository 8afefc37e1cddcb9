import Derived.Test.YtkggpkgnkppceaaLQ
namespace Go.Proofs.Ytkggpkgnkppceaa.LK
open Go.Eng
set_option maxRecDepth 100000
theorem fl_eq {a b : Fl} (h0 : (a.f == b.f) = true) (h1 : (a.t == b.t) = true) (h2 : (a.s.data.toList == b.s.data.toList) = true) : a = b := by
  obtain ⟨f, t, s⟩ := a
  obtain ⟨f', t', s'⟩ := b
  have e0 : f = f' := eq_of_beq h0
  have e1 : t = t' := eq_of_beq h1
  have e2 : s = s' := ByteArray.ext (Array.toList_inj.1 (eq_of_beq h2))
  subst e0 e1 e2
  rfl
theorem set_n {xr : List A} {x : Fl} {n : Int} (h : xr = (Cf.mk x n).row) (d : Int) : storeL xr 3 [.int .i64 d] = (Cf.mk x d).row := by subst h; rfl
section
variable {ro : Addr → A → Prop}
set_option maxHeartbeats 1000000 in
theorem sound22n {K : V → Hp → Prop} (hK : K (.a (.bool true)) []) : Go.Eng.Fn Try.prog ro 22 [.a .nils] [] K := by
  refine Go.Eng.Fn.weak ?_
  refine Go.Eng.Fn.of_code (gOf []) Try.func22 rfl (Nat.le_of_ble_eq_true rfl) ?_
  conv => whnf
  refine loopx_iter 1 ?_
  conv => whnf
  exact keepOf (v₀ := .a (.bool true)) [] [] rfl trivial rfl hK
set_option maxHeartbeats 1000000 in
theorem add21n (x : Fl) (d : Int) (xr : List A) (hxr : xr = (Cf.mk x 0).row) {K : V → Hp → Prop}
    (hK : ∀ y cs cap mk, cs = cfs ([⟨x, d⟩] ++ y) → cap = 1 + y.length → K (.a (.slc 0 0 1 cap)) [.cells cs 53 mk]) :
    Go.Eng.Fn Try.prog ro 21 [.a .nils, .g xr, .a (.int .i64 d)] [] K := by
  obtain ⟨z4, hz4⟩ : ∃ z : List A, z = [.int .u8 0, .int .u8 0, .str { data := #[] }, .int .i64 0] := ⟨_, rfl⟩
  have hzp : Pl z4 := by rw [hz4]; exact ⟨fun _ => rfl, fun _ => rfl⟩
  have hzl : z4.length = 4 := by rw [hz4]; rfl
  have hrz : repl z4 (1 * Try.prog.types[53].size) = z4 := by rw [hz4]; rfl
  have hxp : Pl xr := by rw [hxr]; exact ⟨fun _ => rfl, fun _ => rfl⟩
  have hxl : xr.length = 4 := by rw [hxr]; rfl
  have hwl := hxl
  refine Go.Eng.Fn.weak ?_
  refine Go.Eng.Fn.of_code (gOf []) Try.func21 rfl (Nat.le_of_ble_eq_true rfl) ?_
  conv => whnf
  repeat' (first
    | rw [← hz4]
    | rw [hrz]
    | rw [Nat.zero_mul Try.prog.types[53].size]
    | ((with_reducible refine regx_of ?_ ?_); (· decide +kernel); conv => whnf)
    | ((with_reducible refine growx_pre ?_ ?_); (· exact ⟨_, rfl⟩); conv => whnf)
    | ((with_reducible refine needm_of ?_ ?_); (· first | assumption | exact decide_eq_true (by omega) | exact mkOK_of (by decide) | decide +kernel | (refine decide_eq_true ?_; simp (disch := omega) only [i64w]; omega)); conv => whnf)
    | ((with_reducible refine condm_pos ?_ ?_); (· assumption); conv => whnf)
    | ((with_reducible refine condm_neg ?_ ?_); (· assumption); conv => whnf)
    | ((with_reducible refine forceL_fv (by assumption) ?_); conv => whnf)
    | ((with_reducible refine forceL_rfv (by assumption) ?_); conv => whnf)
    | ((with_reducible refine forceNm_of ?_); conv => whnf)
    | ((with_reducible refine needm_of (fv_lenL (by assumption) (by assumption)) ?_); conv => whnf)
    | ((with_reducible refine optm_var (fv_strL (by assumption) (by assumption)) (fun s hs => ?_)); conv => whnf)
    | ((with_reducible refine forceA_of ?_); conv => whnf)
    | ((with_reducible refine forceL_pl (by assumption) ?_); conv => whnf)
    | ((with_reducible refine forceL_rpl (by assumption) ?_); conv => whnf)
    | ((with_reducible refine needm_of ?_ ?_); (· first | (rw [hxl, hzl]; rfl) | (rw [hxl]; rfl) | (rw [hwl, hzl]; rfl) | (rw [hwl]; rfl)); conv => whnf)
    | ((with_reducible refine forceL_to (whole_of ?_) ?_); (· first | (rw [hxl]; rfl) | (rw [hwl]; rfl)); conv => whnf)
    | ((with_reducible refine forceL_to (store_all ?_) ?_); (· first | rw [hxl, hzl] | rw [hwl, hzl]); conv => whnf)
    | fail)
  refine loopx_iter 1 ?_
  conv => whnf
  repeat' (first
    | rw [← hz4]
    | rw [hrz]
    | rw [Nat.zero_mul Try.prog.types[53].size]
    | ((with_reducible refine regx_of ?_ ?_); (· decide +kernel); conv => whnf)
    | ((with_reducible refine growx_pre ?_ ?_); (· exact ⟨_, rfl⟩); conv => whnf)
    | ((with_reducible refine needm_of ?_ ?_); (· first | assumption | exact decide_eq_true (by omega) | exact mkOK_of (by decide) | decide +kernel | (refine decide_eq_true ?_; simp (disch := omega) only [i64w]; omega)); conv => whnf)
    | ((with_reducible refine condm_pos ?_ ?_); (· assumption); conv => whnf)
    | ((with_reducible refine condm_neg ?_ ?_); (· assumption); conv => whnf)
    | ((with_reducible refine forceL_fv (by assumption) ?_); conv => whnf)
    | ((with_reducible refine forceL_rfv (by assumption) ?_); conv => whnf)
    | ((with_reducible refine forceNm_of ?_); conv => whnf)
    | ((with_reducible refine needm_of (fv_lenL (by assumption) (by assumption)) ?_); conv => whnf)
    | ((with_reducible refine optm_var (fv_strL (by assumption) (by assumption)) (fun s hs => ?_)); conv => whnf)
    | ((with_reducible refine forceA_of ?_); conv => whnf)
    | ((with_reducible refine forceL_pl (by assumption) ?_); conv => whnf)
    | ((with_reducible refine forceL_rpl (by assumption) ?_); conv => whnf)
    | ((with_reducible refine needm_of ?_ ?_); (· first | (rw [hxl, hzl]; rfl) | (rw [hxl]; rfl) | (rw [hwl, hzl]; rfl) | (rw [hwl]; rfl)); conv => whnf)
    | ((with_reducible refine forceL_to (whole_of ?_) ?_); (· first | (rw [hxl]; rfl) | (rw [hwl]; rfl)); conv => whnf)
    | ((with_reducible refine forceL_to (store_all ?_) ?_); (· first | rw [hxl, hzl] | rw [hwl, hzl]); conv => whnf)
    | fail)
  refine forceL_var (set_n hxr d) (fun wr hwr => ?_)
  have hwp : Pl wr := by rw [hwr]; exact ⟨fun _ => rfl, fun _ => rfl⟩
  have hwl : wr.length = 4 := by rw [hwr]; rfl
  conv => whnf
  repeat' (first
    | rw [← hz4]
    | rw [hrz]
    | rw [Nat.zero_mul Try.prog.types[53].size]
    | ((with_reducible refine regx_of ?_ ?_); (· decide +kernel); conv => whnf)
    | ((with_reducible refine growx_pre ?_ ?_); (· exact ⟨_, rfl⟩); conv => whnf)
    | ((with_reducible refine needm_of ?_ ?_); (· first | assumption | exact decide_eq_true (by omega) | exact mkOK_of (by decide) | decide +kernel | (refine decide_eq_true ?_; simp (disch := omega) only [i64w]; omega)); conv => whnf)
    | ((with_reducible refine condm_pos ?_ ?_); (· assumption); conv => whnf)
    | ((with_reducible refine condm_neg ?_ ?_); (· assumption); conv => whnf)
    | ((with_reducible refine forceL_fv (by assumption) ?_); conv => whnf)
    | ((with_reducible refine forceL_rfv (by assumption) ?_); conv => whnf)
    | ((with_reducible refine forceNm_of ?_); conv => whnf)
    | ((with_reducible refine needm_of (fv_lenL (by assumption) (by assumption)) ?_); conv => whnf)
    | ((with_reducible refine optm_var (fv_strL (by assumption) (by assumption)) (fun s hs => ?_)); conv => whnf)
    | ((with_reducible refine forceA_of ?_); conv => whnf)
    | ((with_reducible refine forceL_pl (by assumption) ?_); conv => whnf)
    | ((with_reducible refine forceL_rpl (by assumption) ?_); conv => whnf)
    | ((with_reducible refine needm_of ?_ ?_); (· first | (rw [hxl, hzl]; rfl) | (rw [hxl]; rfl) | (rw [hwl, hzl]; rfl) | (rw [hwl]; rfl)); conv => whnf)
    | ((with_reducible refine forceL_to (whole_of ?_) ?_); (· first | (rw [hxl]; rfl) | (rw [hwl]; rfl)); conv => whnf)
    | ((with_reducible refine forceL_to (store_all ?_) ?_); (· first | rw [hxl, hzl] | rw [hwl, hzl]); conv => whnf)
    | fail)
  intro cap hcap
  conv => whnf
  repeat' (first
    | rw [← hz4]
    | rw [hrz]
    | rw [Nat.zero_mul Try.prog.types[53].size]
    | ((with_reducible refine regx_of ?_ ?_); (· decide +kernel); conv => whnf)
    | ((with_reducible refine growx_pre ?_ ?_); (· exact ⟨_, rfl⟩); conv => whnf)
    | ((with_reducible refine needm_of ?_ ?_); (· first | assumption | exact decide_eq_true (by omega) | exact mkOK_of (by decide) | decide +kernel | (refine decide_eq_true ?_; simp (disch := omega) only [i64w]; omega)); conv => whnf)
    | ((with_reducible refine condm_pos ?_ ?_); (· assumption); conv => whnf)
    | ((with_reducible refine condm_neg ?_ ?_); (· assumption); conv => whnf)
    | ((with_reducible refine forceL_fv (by assumption) ?_); conv => whnf)
    | ((with_reducible refine forceL_rfv (by assumption) ?_); conv => whnf)
    | ((with_reducible refine forceNm_of ?_); conv => whnf)
    | ((with_reducible refine needm_of (fv_lenL (by assumption) (by assumption)) ?_); conv => whnf)
    | ((with_reducible refine optm_var (fv_strL (by assumption) (by assumption)) (fun s hs => ?_)); conv => whnf)
    | ((with_reducible refine forceA_of ?_); conv => whnf)
    | ((with_reducible refine forceL_pl (by assumption) ?_); conv => whnf)
    | ((with_reducible refine forceL_rpl (by assumption) ?_); conv => whnf)
    | ((with_reducible refine needm_of ?_ ?_); (· first | (rw [hxl, hzl]; rfl) | (rw [hxl]; rfl) | (rw [hwl, hzl]; rfl) | (rw [hwl]; rfl)); conv => whnf)
    | ((with_reducible refine forceL_to (whole_of ?_) ?_); (· first | (rw [hxl]; rfl) | (rw [hwl]; rfl)); conv => whnf)
    | ((with_reducible refine forceL_to (store_all ?_) ?_); (· first | rw [hxl, hzl] | rw [hwl, hzl]); conv => whnf)
    | fail)
  refine forceL_var (l' := cfs ([⟨x, d⟩] ++ List.replicate (cap - 1) y0)) ?_ (fun cs hcs => ?_)
  · have hx1 : List.drop 0 (List.take (0 + 1 * Try.prog.types[53].size) wr) = wr := whole_of (by rw [hwl]; rfl)
    rw [hx1, hz4, s53, Nat.zero_add, cfs_append, ← cfs_zeros, cfs_cons, cfs_nil, List.append_nil, hwr]
    rfl
  have hcp := Pl.cfs hcs
  conv => whnf
  repeat' (first
    | rw [← hz4]
    | rw [hrz]
    | rw [Nat.zero_mul Try.prog.types[53].size]
    | ((with_reducible refine regx_of ?_ ?_); (· decide +kernel); conv => whnf)
    | ((with_reducible refine growx_pre ?_ ?_); (· exact ⟨_, rfl⟩); conv => whnf)
    | ((with_reducible refine needm_of ?_ ?_); (· first | assumption | exact decide_eq_true (by omega) | exact mkOK_of (by decide) | decide +kernel | (refine decide_eq_true ?_; simp (disch := omega) only [i64w]; omega)); conv => whnf)
    | ((with_reducible refine condm_pos ?_ ?_); (· assumption); conv => whnf)
    | ((with_reducible refine condm_neg ?_ ?_); (· assumption); conv => whnf)
    | ((with_reducible refine forceL_fv (by assumption) ?_); conv => whnf)
    | ((with_reducible refine forceL_rfv (by assumption) ?_); conv => whnf)
    | ((with_reducible refine forceNm_of ?_); conv => whnf)
    | ((with_reducible refine needm_of (fv_lenL (by assumption) (by assumption)) ?_); conv => whnf)
    | ((with_reducible refine optm_var (fv_strL (by assumption) (by assumption)) (fun s hs => ?_)); conv => whnf)
    | ((with_reducible refine forceA_of ?_); conv => whnf)
    | ((with_reducible refine forceL_pl (by assumption) ?_); conv => whnf)
    | ((with_reducible refine forceL_rpl (by assumption) ?_); conv => whnf)
    | ((with_reducible refine needm_of ?_ ?_); (· first | (rw [hxl, hzl]; rfl) | (rw [hxl]; rfl) | (rw [hwl, hzl]; rfl) | (rw [hwl]; rfl)); conv => whnf)
    | ((with_reducible refine forceL_to (whole_of ?_) ?_); (· first | (rw [hxl]; rfl) | (rw [hwl]; rfl)); conv => whnf)
    | ((with_reducible refine forceL_to (store_all ?_) ?_); (· first | rw [hxl, hzl] | rw [hwl, hzl]); conv => whnf)
    | fail)
  exact keepOf (v₀ := .a (.slc 0 0 1 cap)) [.cells cs 53 false] [2] rfl ⟨ren_pl hcp _ _ _, trivial⟩ (by simp [nodupb, baseb, Ob.okb, frmOk, V.okb, A.okb, hcp.2] <;> decide) (hK _ cs cap false hcs (by rw [List.length_replicate]; omega))
set_option maxHeartbeats 1000000 in
theorem add21 (x : Fl) (d : Int) (hd : d = 1 ∨ d = -1) (xr : List A) (hxr : xr = (Cf.mk x 0).row) (C y : List Cf) (cs : List A) (cap : Nat) (mk : Bool) (hcs : cs = cfs (C ++ y)) (hcap : cap = C.length + y.length) (hC : C.length ≤ 4000000000000) (hb : ∀ c ∈ C, 0 ≤ c.n ∧ c.n ≤ 1024) {K : V → Hp → Prop}
    (hK1 : ∀ (i : Nat) c, C[i]? = some c → c.x = x → (∀ j, j < i → ∀ c', C[j]? = some c' → c'.x ≠ x) → ∀ cs', cs' = cfs (C.set i ⟨x, c.n + d⟩ ++ y) → K (.a (.slc 0 0 C.length cap)) [.cells cs' 53 mk])
    (hK2 : (∀ c ∈ C, c.x ≠ x) → ∀ y' cs', cs' = cfs (C ++ [⟨x, d⟩] ++ y') → cap = (C ++ [(⟨x, d⟩ : Cf)]).length + y'.length → K (.a (.slc 0 0 (C ++ [(⟨x, d⟩ : Cf)]).length cap)) [.cells cs' 53 mk])
    (hK3 : (∀ c ∈ C, c.x ≠ x) → ∀ y' cs' cap', cs' = cfs (C ++ [⟨x, d⟩] ++ y') → cap' = (C ++ [(⟨x, d⟩ : Cf)]).length + y'.length → K (.a (.slc 1 0 (C ++ [(⟨x, d⟩ : Cf)]).length cap')) [.cells cs 53 mk, .cells cs' 53 false]) :
    Go.Eng.Fn Try.prog ro 21 [.a (.slc 0 0 C.length cap), .g xr, .a (.int .i64 d)] [.cells cs 53 mk] K := by
  have hp := Pl.cfs hcs
  have hcl : cs.length = (C.length + y.length) * 4 := by rw [hcs, cfs_length, List.length_append]
  have hlx : (C ++ [(⟨x, d⟩ : Cf)]).length = C.length + 1 := by simp
  obtain ⟨z4, hz4⟩ : ∃ z : List A, z = [.int .u8 0, .int .u8 0, .str { data := #[] }, .int .i64 0] := ⟨_, rfl⟩
  have hzp : Pl z4 := by rw [hz4]; exact ⟨fun _ => rfl, fun _ => rfl⟩
  have hzl : z4.length = 4 := by rw [hz4]; rfl
  have hrz : repl z4 (1 * Try.prog.types[53].size) = z4 := by rw [hz4]; rfl
  have hxp : Pl xr := by rw [hxr]; exact ⟨fun _ => rfl, fun _ => rfl⟩
  have hxl : xr.length = 4 := by rw [hxr]; rfl
  have hwl := hxl
  have g0 : xr[0]? = some (.int .u8 (x.f.toNat : Int)) := by rw [hxr]; rfl
  have g1 : xr[1]? = some (.int .u8 (x.t.toNat : Int)) := by rw [hxr]; rfl
  have g2 : xr[2]? = some (.str x.s) := by rw [hxr]; rfl
  refine Go.Eng.Fn.weak ?_
  refine Go.Eng.Fn.of 1 h21 rfl Try.func21 rfl (Nat.le_of_ble_eq_true rfl) ?_
  conv => whnf
  generalize hn : C.length = n at *
  repeat' (first
    | rw [← hz4]
    | rw [hrz]
    | rw [Nat.zero_mul Try.prog.types[53].size]
    | ((with_reducible refine regx_of ?_ ?_); (· decide +kernel); conv => whnf)
    | ((with_reducible refine growx_pre ?_ ?_); (· exact ⟨_, rfl⟩); conv => whnf)
    | ((with_reducible refine needm_of ?_ ?_); (· first | assumption | exact decide_eq_true (by omega) | exact mkOK_of (by decide) | decide +kernel | (refine decide_eq_true ?_; simp (disch := omega) only [i64w]; omega)); conv => whnf)
    | ((with_reducible refine condm_pos ?_ ?_); (· assumption); conv => whnf)
    | ((with_reducible refine condm_neg ?_ ?_); (· assumption); conv => whnf)
    | ((with_reducible refine forceL_fv (by assumption) ?_); conv => whnf)
    | ((with_reducible refine forceL_rfv (by assumption) ?_); conv => whnf)
    | ((with_reducible refine forceNm_of ?_); conv => whnf)
    | ((with_reducible refine needm_of (fv_lenL (by assumption) (by assumption)) ?_); conv => whnf)
    | ((with_reducible refine optm_var (fv_strL (by assumption) (by assumption)) (fun s hs => ?_)); conv => whnf)
    | ((with_reducible refine forceA_of ?_); conv => whnf)
    | ((with_reducible refine forceL_pl (by assumption) ?_); conv => whnf)
    | ((with_reducible refine forceL_rpl (by assumption) ?_); conv => whnf)
    | ((with_reducible refine needm_of ?_ ?_); (· first | (rw [hxl, hzl]; rfl) | (rw [hxl]; rfl) | (rw [hwl, hzl]; rfl) | (rw [hwl]; rfl)); conv => whnf)
    | ((with_reducible refine forceL_to (whole_of ?_) ?_); (· first | (rw [hxl]; rfl) | (rw [hwl]; rfl)); conv => whnf)
    | ((with_reducible refine forceL_to (store_all ?_) ?_); (· first | rw [hxl, hzl] | rw [hwl, hzl]); conv => whnf)
    | fail)
  refine loopx_of (fun m F H => ∃ i : Nat, i ≤ n ∧ m = n - i ∧ (∀ j : Nat, j < i → ∀ c, C[j]? = some c → c.x ≠ x) ∧ F = [(0, .a (.slc 0 0 n cap)), (2, .a (.int .i64 d)), (4, .a (.ptr 1 0)), (7, .a (.int .i64 i))] ∧ H = [.cells cs 53 mk, .cells xr 53 false]) n ?_ ?_
  · refine Into.weak [0, 1] _ _ ⟨0, by omega, rfl, fun j hj => absurd hj (Nat.not_lt_zero j), rfl, rfl⟩ ⟨rfl, rfl, rfl, rfl, trivial⟩ ⟨ren_pl hp _ _ _, ren_pl hxp _ _ _, trivial⟩ ?_
    simp [nodupb, baseb, Ob.okb, frmOk, V.okb, A.okb, hp.2, hxp.2] <;> decide
  · rintro m F H ⟨i, hi, rfl, hno, rfl, rfl⟩
    conv => whnf
    repeat' (first
      | rw [← hz4]
      | rw [hrz]
      | rw [Nat.zero_mul Try.prog.types[53].size]
      | ((with_reducible refine regx_of ?_ ?_); (· decide +kernel); conv => whnf)
      | ((with_reducible refine growx_pre ?_ ?_); (· exact ⟨_, rfl⟩); conv => whnf)
      | ((with_reducible refine needm_of ?_ ?_); (· first | assumption | exact decide_eq_true (by omega) | exact mkOK_of (by decide) | decide +kernel | (refine decide_eq_true ?_; simp (disch := omega) only [i64w]; omega)); conv => whnf)
      | ((with_reducible refine condm_pos ?_ ?_); (· assumption); conv => whnf)
      | ((with_reducible refine condm_neg ?_ ?_); (· assumption); conv => whnf)
      | ((with_reducible refine forceL_fv (by assumption) ?_); conv => whnf)
      | ((with_reducible refine forceL_rfv (by assumption) ?_); conv => whnf)
      | ((with_reducible refine forceNm_of ?_); conv => whnf)
      | ((with_reducible refine needm_of (fv_lenL (by assumption) (by assumption)) ?_); conv => whnf)
      | ((with_reducible refine optm_var (fv_strL (by assumption) (by assumption)) (fun s hs => ?_)); conv => whnf)
      | ((with_reducible refine forceA_of ?_); conv => whnf)
      | ((with_reducible refine forceL_pl (by assumption) ?_); conv => whnf)
      | ((with_reducible refine forceL_rpl (by assumption) ?_); conv => whnf)
      | ((with_reducible refine needm_of ?_ ?_); (· first | (rw [hxl, hzl]; rfl) | (rw [hxl]; rfl) | (rw [hwl, hzl]; rfl) | (rw [hwl]; rfl)); conv => whnf)
      | ((with_reducible refine forceL_to (whole_of ?_) ?_); (· first | (rw [hxl]; rfl) | (rw [hwl]; rfl)); conv => whnf)
      | ((with_reducible refine forceL_to (store_all ?_) ?_); (· first | rw [hxl, hzl] | rw [hwl, hzl]); conv => whnf)
      | fail)
    refine condm_of (fun h => ?_) (fun h => ?_)
    · have hin : i < n := by have := of_decide_eq_true h; omega
      have e4 : IntKind.i64.wrap (↑i + 1) = ((i + 1 : Nat) : Int) := by rw [i64w (by omega) (by omega)]; rfl
      have hC1 : ((i : Int)).toNat = i := Int.toNat_natCast _
      obtain ⟨c, hc⟩ : ∃ c, C[i]? = some c := ⟨_, List.getElem?_eq_getElem (by omega)⟩
      have hc' : (C ++ y)[i]? = some c := by rw [List.getElem?_append_left (by omega)]; exact hc
      have f0 : cs[0 + (i : Int).toNat * Try.prog.types[53].size]? = some (.int .u8 (c.x.f.toNat : Int)) := by
        rw [cfs_cell hcs hc' (k := 0) (by decide) (by rw [s53, hC1]; omega)]; rfl
      have f1 : cs[0 + (i : Int).toNat * Try.prog.types[53].size + 1]? = some (.int .u8 (c.x.t.toNat : Int)) := by
        rw [cfs_cell hcs hc' (k := 1) (by decide) (by rw [s53, hC1]; omega)]; rfl
      have f2 : cs[0 + (i : Int).toNat * Try.prog.types[53].size + 2]? = some (.str c.x.s) := by
        rw [cfs_cell hcs hc' (k := 2) (by decide) (by rw [s53, hC1]; omega)]; rfl
      have f3 : cs[0 + (i : Int).toNat * Try.prog.types[53].size + 3]? = some (.int .i64 c.n) := by
        rw [cfs_cell hcs hc' (k := 3) (by decide) (by rw [s53, hC1]; omega)]; rfl
      conv => whnf
      repeat' (first
        | rw [← hz4]
        | rw [hrz]
        | rw [Nat.zero_mul Try.prog.types[53].size]
        | ((with_reducible refine regx_of ?_ ?_); (· decide +kernel); conv => whnf)
        | ((with_reducible refine growx_pre ?_ ?_); (· exact ⟨_, rfl⟩); conv => whnf)
        | ((with_reducible refine needm_of ?_ ?_); (· first | assumption | exact decide_eq_true (by omega) | exact mkOK_of (by decide) | decide +kernel | (refine decide_eq_true ?_; simp (disch := omega) only [i64w]; omega)); conv => whnf)
        | ((with_reducible refine condm_pos ?_ ?_); (· assumption); conv => whnf)
        | ((with_reducible refine condm_neg ?_ ?_); (· assumption); conv => whnf)
        | ((with_reducible refine forceL_fv (by assumption) ?_); conv => whnf)
        | ((with_reducible refine forceL_rfv (by assumption) ?_); conv => whnf)
        | ((with_reducible refine forceNm_of ?_); conv => whnf)
        | ((with_reducible refine needm_of (fv_lenL (by assumption) (by assumption)) ?_); conv => whnf)
        | ((with_reducible refine optm_var (fv_strL (by assumption) (by assumption)) (fun s hs => ?_)); conv => whnf)
        | ((with_reducible refine forceA_of ?_); conv => whnf)
        | ((with_reducible refine forceL_pl (by assumption) ?_); conv => whnf)
        | ((with_reducible refine forceL_rpl (by assumption) ?_); conv => whnf)
        | ((with_reducible refine needm_of ?_ ?_); (· first | (rw [hxl, hzl]; rfl) | (rw [hxl]; rfl) | (rw [hwl, hzl]; rfl) | (rw [hwl]; rfl)); conv => whnf)
        | ((with_reducible refine forceL_to (whole_of ?_) ?_); (· first | (rw [hxl]; rfl) | (rw [hwl]; rfl)); conv => whnf)
        | ((with_reducible refine forceL_to (store_all ?_) ?_); (· first | rw [hxl, hzl] | rw [hwl, hzl]); conv => whnf)
        | ((with_reducible apply optm_of); (· first | exact g0 | exact g1 | exact g2 | exact f0 | exact f1 | exact f2 | exact f3); conv => whnf)
        | fail)
      rw [beqI]
      cases hb0 : c.x.f == x.f with
      | false =>
        conv => whnf
        repeat' (first
          | rw [← hz4]
          | rw [hrz]
          | rw [Nat.zero_mul Try.prog.types[53].size]
          | ((with_reducible refine regx_of ?_ ?_); (· decide +kernel); conv => whnf)
          | ((with_reducible refine growx_pre ?_ ?_); (· exact ⟨_, rfl⟩); conv => whnf)
          | ((with_reducible refine needm_of ?_ ?_); (· first | assumption | exact decide_eq_true (by omega) | exact mkOK_of (by decide) | decide +kernel | (refine decide_eq_true ?_; simp (disch := omega) only [i64w]; omega)); conv => whnf)
          | ((with_reducible refine condm_pos ?_ ?_); (· assumption); conv => whnf)
          | ((with_reducible refine condm_neg ?_ ?_); (· assumption); conv => whnf)
          | ((with_reducible refine forceL_fv (by assumption) ?_); conv => whnf)
          | ((with_reducible refine forceL_rfv (by assumption) ?_); conv => whnf)
          | ((with_reducible refine forceNm_of ?_); conv => whnf)
          | ((with_reducible refine needm_of (fv_lenL (by assumption) (by assumption)) ?_); conv => whnf)
          | ((with_reducible refine optm_var (fv_strL (by assumption) (by assumption)) (fun s hs => ?_)); conv => whnf)
          | ((with_reducible refine forceA_of ?_); conv => whnf)
          | ((with_reducible refine forceL_pl (by assumption) ?_); conv => whnf)
          | ((with_reducible refine forceL_rpl (by assumption) ?_); conv => whnf)
          | ((with_reducible refine needm_of ?_ ?_); (· first | (rw [hxl, hzl]; rfl) | (rw [hxl]; rfl) | (rw [hwl, hzl]; rfl) | (rw [hwl]; rfl)); conv => whnf)
          | ((with_reducible refine forceL_to (whole_of ?_) ?_); (· first | (rw [hxl]; rfl) | (rw [hwl]; rfl)); conv => whnf)
          | ((with_reducible refine forceL_to (store_all ?_) ?_); (· first | rw [hxl, hzl] | rw [hwl, hzl]); conv => whnf)
          | ((with_reducible apply optm_of); (· first | exact g0 | exact g1 | exact g2 | exact f0 | exact f1 | exact f2 | exact f3); conv => whnf)
          | fail)
        have hcx : c.x ≠ x := fun e => by rw [e] at hb0; simp at hb0
        refine ⟨n - (i + 1), by omega, Into.weak [0, 1] _ _ ⟨i + 1, by omega, rfl, fun j hj c2 hc2 => ?_, rfl, rfl⟩ ⟨rfl, rfl, rfl, congrArg (fun z => some (V.a (.int .i64 z))) e4, trivial⟩ ⟨ren_pl hp _ _ _, ren_pl hxp _ _ _, trivial⟩ (by simp [nodupb, baseb, Ob.okb, frmOk, V.okb, A.okb, hp.2, hxp.2] <;> decide)⟩
        by_cases e : j = i
        · subst e
          rw [hc] at hc2
          injection hc2 with hc2
          subst hc2
          exact hcx
        · exact hno j (by omega) c2 hc2
      | true =>
        conv => whnf
        repeat' (first
          | rw [← hz4]
          | rw [hrz]
          | rw [Nat.zero_mul Try.prog.types[53].size]
          | ((with_reducible refine regx_of ?_ ?_); (· decide +kernel); conv => whnf)
          | ((with_reducible refine growx_pre ?_ ?_); (· exact ⟨_, rfl⟩); conv => whnf)
          | ((with_reducible refine needm_of ?_ ?_); (· first | assumption | exact decide_eq_true (by omega) | exact mkOK_of (by decide) | decide +kernel | (refine decide_eq_true ?_; simp (disch := omega) only [i64w]; omega)); conv => whnf)
          | ((with_reducible refine condm_pos ?_ ?_); (· assumption); conv => whnf)
          | ((with_reducible refine condm_neg ?_ ?_); (· assumption); conv => whnf)
          | ((with_reducible refine forceL_fv (by assumption) ?_); conv => whnf)
          | ((with_reducible refine forceL_rfv (by assumption) ?_); conv => whnf)
          | ((with_reducible refine forceNm_of ?_); conv => whnf)
          | ((with_reducible refine needm_of (fv_lenL (by assumption) (by assumption)) ?_); conv => whnf)
          | ((with_reducible refine optm_var (fv_strL (by assumption) (by assumption)) (fun s hs => ?_)); conv => whnf)
          | ((with_reducible refine forceA_of ?_); conv => whnf)
          | ((with_reducible refine forceL_pl (by assumption) ?_); conv => whnf)
          | ((with_reducible refine forceL_rpl (by assumption) ?_); conv => whnf)
          | ((with_reducible refine needm_of ?_ ?_); (· first | (rw [hxl, hzl]; rfl) | (rw [hxl]; rfl) | (rw [hwl, hzl]; rfl) | (rw [hwl]; rfl)); conv => whnf)
          | ((with_reducible refine forceL_to (whole_of ?_) ?_); (· first | (rw [hxl]; rfl) | (rw [hwl]; rfl)); conv => whnf)
          | ((with_reducible refine forceL_to (store_all ?_) ?_); (· first | rw [hxl, hzl] | rw [hwl, hzl]); conv => whnf)
          | ((with_reducible apply optm_of); (· first | exact g0 | exact g1 | exact g2 | exact f0 | exact f1 | exact f2 | exact f3); conv => whnf)
          | fail)
        rw [beqI]
        cases hb1 : c.x.t == x.t with
        | false =>
          conv => whnf
          repeat' (first
            | rw [← hz4]
            | rw [hrz]
            | rw [Nat.zero_mul Try.prog.types[53].size]
            | ((with_reducible refine regx_of ?_ ?_); (· decide +kernel); conv => whnf)
            | ((with_reducible refine growx_pre ?_ ?_); (· exact ⟨_, rfl⟩); conv => whnf)
            | ((with_reducible refine needm_of ?_ ?_); (· first | assumption | exact decide_eq_true (by omega) | exact mkOK_of (by decide) | decide +kernel | (refine decide_eq_true ?_; simp (disch := omega) only [i64w]; omega)); conv => whnf)
            | ((with_reducible refine condm_pos ?_ ?_); (· assumption); conv => whnf)
            | ((with_reducible refine condm_neg ?_ ?_); (· assumption); conv => whnf)
            | ((with_reducible refine forceL_fv (by assumption) ?_); conv => whnf)
            | ((with_reducible refine forceL_rfv (by assumption) ?_); conv => whnf)
            | ((with_reducible refine forceNm_of ?_); conv => whnf)
            | ((with_reducible refine needm_of (fv_lenL (by assumption) (by assumption)) ?_); conv => whnf)
            | ((with_reducible refine optm_var (fv_strL (by assumption) (by assumption)) (fun s hs => ?_)); conv => whnf)
            | ((with_reducible refine forceA_of ?_); conv => whnf)
            | ((with_reducible refine forceL_pl (by assumption) ?_); conv => whnf)
            | ((with_reducible refine forceL_rpl (by assumption) ?_); conv => whnf)
            | ((with_reducible refine needm_of ?_ ?_); (· first | (rw [hxl, hzl]; rfl) | (rw [hxl]; rfl) | (rw [hwl, hzl]; rfl) | (rw [hwl]; rfl)); conv => whnf)
            | ((with_reducible refine forceL_to (whole_of ?_) ?_); (· first | (rw [hxl]; rfl) | (rw [hwl]; rfl)); conv => whnf)
            | ((with_reducible refine forceL_to (store_all ?_) ?_); (· first | rw [hxl, hzl] | rw [hwl, hzl]); conv => whnf)
            | ((with_reducible apply optm_of); (· first | exact g0 | exact g1 | exact g2 | exact f0 | exact f1 | exact f2 | exact f3); conv => whnf)
            | fail)
          have hcx : c.x ≠ x := fun e => by rw [e] at hb1; simp at hb1
          refine ⟨n - (i + 1), by omega, Into.weak [0, 1] _ _ ⟨i + 1, by omega, rfl, fun j hj c2 hc2 => ?_, rfl, rfl⟩ ⟨rfl, rfl, rfl, congrArg (fun z => some (V.a (.int .i64 z))) e4, trivial⟩ ⟨ren_pl hp _ _ _, ren_pl hxp _ _ _, trivial⟩ (by simp [nodupb, baseb, Ob.okb, frmOk, V.okb, A.okb, hp.2, hxp.2] <;> decide)⟩
          by_cases e : j = i
          · subst e
            rw [hc] at hc2
            injection hc2 with hc2
            subst hc2
            exact hcx
          · exact hno j (by omega) c2 hc2
        | true =>
          conv => whnf
          repeat' (first
            | rw [← hz4]
            | rw [hrz]
            | rw [Nat.zero_mul Try.prog.types[53].size]
            | ((with_reducible refine regx_of ?_ ?_); (· decide +kernel); conv => whnf)
            | ((with_reducible refine growx_pre ?_ ?_); (· exact ⟨_, rfl⟩); conv => whnf)
            | ((with_reducible refine needm_of ?_ ?_); (· first | assumption | exact decide_eq_true (by omega) | exact mkOK_of (by decide) | decide +kernel | (refine decide_eq_true ?_; simp (disch := omega) only [i64w]; omega)); conv => whnf)
            | ((with_reducible refine condm_pos ?_ ?_); (· assumption); conv => whnf)
            | ((with_reducible refine condm_neg ?_ ?_); (· assumption); conv => whnf)
            | ((with_reducible refine forceL_fv (by assumption) ?_); conv => whnf)
            | ((with_reducible refine forceL_rfv (by assumption) ?_); conv => whnf)
            | ((with_reducible refine forceNm_of ?_); conv => whnf)
            | ((with_reducible refine needm_of (fv_lenL (by assumption) (by assumption)) ?_); conv => whnf)
            | ((with_reducible refine optm_var (fv_strL (by assumption) (by assumption)) (fun s hs => ?_)); conv => whnf)
            | ((with_reducible refine forceA_of ?_); conv => whnf)
            | ((with_reducible refine forceL_pl (by assumption) ?_); conv => whnf)
            | ((with_reducible refine forceL_rpl (by assumption) ?_); conv => whnf)
            | ((with_reducible refine needm_of ?_ ?_); (· first | (rw [hxl, hzl]; rfl) | (rw [hxl]; rfl) | (rw [hwl, hzl]; rfl) | (rw [hwl]; rfl)); conv => whnf)
            | ((with_reducible refine forceL_to (whole_of ?_) ?_); (· first | (rw [hxl]; rfl) | (rw [hwl]; rfl)); conv => whnf)
            | ((with_reducible refine forceL_to (store_all ?_) ?_); (· first | rw [hxl, hzl] | rw [hwl, hzl]); conv => whnf)
            | ((with_reducible apply optm_of); (· first | exact g0 | exact g1 | exact g2 | exact f0 | exact f1 | exact f2 | exact f3); conv => whnf)
            | fail)
          cases hb2 : c.x.s.data.toList == x.s.data.toList with
          | false =>
            conv => whnf
            repeat' (first
              | rw [← hz4]
              | rw [hrz]
              | rw [Nat.zero_mul Try.prog.types[53].size]
              | ((with_reducible refine regx_of ?_ ?_); (· decide +kernel); conv => whnf)
              | ((with_reducible refine growx_pre ?_ ?_); (· exact ⟨_, rfl⟩); conv => whnf)
              | ((with_reducible refine needm_of ?_ ?_); (· first | assumption | exact decide_eq_true (by omega) | exact mkOK_of (by decide) | decide +kernel | (refine decide_eq_true ?_; simp (disch := omega) only [i64w]; omega)); conv => whnf)
              | ((with_reducible refine condm_pos ?_ ?_); (· assumption); conv => whnf)
              | ((with_reducible refine condm_neg ?_ ?_); (· assumption); conv => whnf)
              | ((with_reducible refine forceL_fv (by assumption) ?_); conv => whnf)
              | ((with_reducible refine forceL_rfv (by assumption) ?_); conv => whnf)
              | ((with_reducible refine forceNm_of ?_); conv => whnf)
              | ((with_reducible refine needm_of (fv_lenL (by assumption) (by assumption)) ?_); conv => whnf)
              | ((with_reducible refine optm_var (fv_strL (by assumption) (by assumption)) (fun s hs => ?_)); conv => whnf)
              | ((with_reducible refine forceA_of ?_); conv => whnf)
              | ((with_reducible refine forceL_pl (by assumption) ?_); conv => whnf)
              | ((with_reducible refine forceL_rpl (by assumption) ?_); conv => whnf)
              | ((with_reducible refine needm_of ?_ ?_); (· first | (rw [hxl, hzl]; rfl) | (rw [hxl]; rfl) | (rw [hwl, hzl]; rfl) | (rw [hwl]; rfl)); conv => whnf)
              | ((with_reducible refine forceL_to (whole_of ?_) ?_); (· first | (rw [hxl]; rfl) | (rw [hwl]; rfl)); conv => whnf)
              | ((with_reducible refine forceL_to (store_all ?_) ?_); (· first | rw [hxl, hzl] | rw [hwl, hzl]); conv => whnf)
              | ((with_reducible apply optm_of); (· first | exact g0 | exact g1 | exact g2 | exact f0 | exact f1 | exact f2 | exact f3); conv => whnf)
              | fail)
            have hcx : c.x ≠ x := fun e => by rw [e] at hb2; simp at hb2
            refine ⟨n - (i + 1), by omega, Into.weak [0, 1] _ _ ⟨i + 1, by omega, rfl, fun j hj c2 hc2 => ?_, rfl, rfl⟩ ⟨rfl, rfl, rfl, congrArg (fun z => some (V.a (.int .i64 z))) e4, trivial⟩ ⟨ren_pl hp _ _ _, ren_pl hxp _ _ _, trivial⟩ (by simp [nodupb, baseb, Ob.okb, frmOk, V.okb, A.okb, hp.2, hxp.2] <;> decide)⟩
            by_cases e : j = i
            · subst e
              rw [hc] at hc2
              injection hc2 with hc2
              subst hc2
              exact hcx
            · exact hno j (by omega) c2 hc2
          | true =>
            have hcx : c.x = x := fl_eq hb0 hb1 hb2
            have hcn := hb c (List.mem_of_getElem? hc)
            have e5 : IntKind.i64.wrap (c.n + d) = c.n + d := i64w (by omega) (by omega)
            conv => whnf
            repeat' (first
              | rw [← hz4]
              | rw [hrz]
              | rw [Nat.zero_mul Try.prog.types[53].size]
              | ((with_reducible refine regx_of ?_ ?_); (· decide +kernel); conv => whnf)
              | ((with_reducible refine growx_pre ?_ ?_); (· exact ⟨_, rfl⟩); conv => whnf)
              | ((with_reducible refine needm_of ?_ ?_); (· first | assumption | exact decide_eq_true (by omega) | exact mkOK_of (by decide) | decide +kernel | (refine decide_eq_true ?_; simp (disch := omega) only [i64w]; omega)); conv => whnf)
              | ((with_reducible refine condm_pos ?_ ?_); (· assumption); conv => whnf)
              | ((with_reducible refine condm_neg ?_ ?_); (· assumption); conv => whnf)
              | ((with_reducible refine forceL_fv (by assumption) ?_); conv => whnf)
              | ((with_reducible refine forceL_rfv (by assumption) ?_); conv => whnf)
              | ((with_reducible refine forceNm_of ?_); conv => whnf)
              | ((with_reducible refine needm_of (fv_lenL (by assumption) (by assumption)) ?_); conv => whnf)
              | ((with_reducible refine optm_var (fv_strL (by assumption) (by assumption)) (fun s hs => ?_)); conv => whnf)
              | ((with_reducible refine forceA_of ?_); conv => whnf)
              | ((with_reducible refine forceL_pl (by assumption) ?_); conv => whnf)
              | ((with_reducible refine forceL_rpl (by assumption) ?_); conv => whnf)
              | ((with_reducible refine needm_of ?_ ?_); (· first | (rw [hxl, hzl]; rfl) | (rw [hxl]; rfl) | (rw [hwl, hzl]; rfl) | (rw [hwl]; rfl)); conv => whnf)
              | ((with_reducible refine forceL_to (whole_of ?_) ?_); (· first | (rw [hxl]; rfl) | (rw [hwl]; rfl)); conv => whnf)
              | ((with_reducible refine forceL_to (store_all ?_) ?_); (· first | rw [hxl, hzl] | rw [hwl, hzl]); conv => whnf)
              | ((with_reducible apply optm_of); (· first | exact g0 | exact g1 | exact g2 | exact f0 | exact f1 | exact f2 | exact f3); conv => whnf)
              | fail)
            refine needm_of (Bool.and_eq_true_iff.2 ⟨rfl, decide_eq_true ?_⟩) ?_
            · show 0 + (i : Int).toNat * Try.prog.types[53].size + 3 + 1 ≤ cs.length
              rw [s53, hcl]; omega
            conv => whnf
            rw [e5]
            refine forceL_var (cfs_set hcs hc' (c.n + d) (by rw [s53, hC1]; show 0 + i * 4 + 3 = _; omega)) (fun cs2 hcs2 => ?_)
            rw [List.set_append_left _ _ (by omega)] at hcs2
            have hp2 := Pl.cfs hcs2
            conv => whnf
            repeat' (first
              | rw [← hz4]
              | rw [hrz]
              | rw [Nat.zero_mul Try.prog.types[53].size]
              | ((with_reducible refine regx_of ?_ ?_); (· decide +kernel); conv => whnf)
              | ((with_reducible refine growx_pre ?_ ?_); (· exact ⟨_, rfl⟩); conv => whnf)
              | ((with_reducible refine needm_of ?_ ?_); (· first | assumption | exact decide_eq_true (by omega) | exact mkOK_of (by decide) | decide +kernel | (refine decide_eq_true ?_; simp (disch := omega) only [i64w]; omega)); conv => whnf)
              | ((with_reducible refine condm_pos ?_ ?_); (· assumption); conv => whnf)
              | ((with_reducible refine condm_neg ?_ ?_); (· assumption); conv => whnf)
              | ((with_reducible refine forceL_fv (by assumption) ?_); conv => whnf)
              | ((with_reducible refine forceL_rfv (by assumption) ?_); conv => whnf)
              | ((with_reducible refine forceNm_of ?_); conv => whnf)
              | ((with_reducible refine needm_of (fv_lenL (by assumption) (by assumption)) ?_); conv => whnf)
              | ((with_reducible refine optm_var (fv_strL (by assumption) (by assumption)) (fun s hs => ?_)); conv => whnf)
              | ((with_reducible refine forceA_of ?_); conv => whnf)
              | ((with_reducible refine forceL_pl (by assumption) ?_); conv => whnf)
              | ((with_reducible refine forceL_rpl (by assumption) ?_); conv => whnf)
              | ((with_reducible refine needm_of ?_ ?_); (· first | (rw [hxl, hzl]; rfl) | (rw [hxl]; rfl) | (rw [hwl, hzl]; rfl) | (rw [hwl]; rfl)); conv => whnf)
              | ((with_reducible refine forceL_to (whole_of ?_) ?_); (· first | (rw [hxl]; rfl) | (rw [hwl]; rfl)); conv => whnf)
              | ((with_reducible refine forceL_to (store_all ?_) ?_); (· first | rw [hxl, hzl] | rw [hwl, hzl]); conv => whnf)
              | ((with_reducible apply optm_of); (· first | exact g0 | exact g1 | exact g2 | exact f0 | exact f1 | exact f2 | exact f3); conv => whnf)
              | fail)
            exact keepOf (v₀ := .a (.slc 0 0 n cap)) [.cells cs2 53 mk] [0] rfl ⟨ren_pl hp2 _ _ _, trivial⟩ (by simp [nodupb, baseb, Ob.okb, frmOk, V.okb, A.okb, hp2.2] <;> decide) (hK1 i c hc hcx hno cs2 (by rw [hcs2, hcx]))
    · have hall : ∀ c ∈ C, c.x ≠ x := fun c hc => by
        obtain ⟨j, hj, rfl⟩ := List.getElem_of_mem hc
        have hin : ¬ i < n := by have := of_decide_eq_false h; omega
        exact hno j (by omega) _ (List.getElem?_eq_getElem hj)
      conv => whnf
      repeat' (first
        | rw [← hz4]
        | rw [hrz]
        | rw [Nat.zero_mul Try.prog.types[53].size]
        | ((with_reducible refine regx_of ?_ ?_); (· decide +kernel); conv => whnf)
        | ((with_reducible refine growx_pre ?_ ?_); (· exact ⟨_, rfl⟩); conv => whnf)
        | ((with_reducible refine needm_of ?_ ?_); (· first | assumption | exact decide_eq_true (by omega) | exact mkOK_of (by decide) | decide +kernel | (refine decide_eq_true ?_; simp (disch := omega) only [i64w]; omega)); conv => whnf)
        | ((with_reducible refine condm_pos ?_ ?_); (· assumption); conv => whnf)
        | ((with_reducible refine condm_neg ?_ ?_); (· assumption); conv => whnf)
        | ((with_reducible refine forceL_fv (by assumption) ?_); conv => whnf)
        | ((with_reducible refine forceL_rfv (by assumption) ?_); conv => whnf)
        | ((with_reducible refine forceNm_of ?_); conv => whnf)
        | ((with_reducible refine needm_of (fv_lenL (by assumption) (by assumption)) ?_); conv => whnf)
        | ((with_reducible refine optm_var (fv_strL (by assumption) (by assumption)) (fun s hs => ?_)); conv => whnf)
        | ((with_reducible refine forceA_of ?_); conv => whnf)
        | ((with_reducible refine forceL_pl (by assumption) ?_); conv => whnf)
        | ((with_reducible refine forceL_rpl (by assumption) ?_); conv => whnf)
        | ((with_reducible refine needm_of ?_ ?_); (· first | (rw [hxl, hzl]; rfl) | (rw [hxl]; rfl) | (rw [hwl, hzl]; rfl) | (rw [hwl]; rfl)); conv => whnf)
        | ((with_reducible refine forceL_to (whole_of ?_) ?_); (· first | (rw [hxl]; rfl) | (rw [hwl]; rfl)); conv => whnf)
        | ((with_reducible refine forceL_to (store_all ?_) ?_); (· first | rw [hxl, hzl] | rw [hwl, hzl]); conv => whnf)
        | fail)
      refine forceL_var (set_n hxr d) (fun wr hwr => ?_)
      have hwp : Pl wr := by rw [hwr]; exact ⟨fun _ => rfl, fun _ => rfl⟩
      have hwl : wr.length = 4 := by rw [hwr]; rfl
      conv => whnf
      repeat' (first
        | rw [← hz4]
        | rw [hrz]
        | rw [Nat.zero_mul Try.prog.types[53].size]
        | ((with_reducible refine regx_of ?_ ?_); (· decide +kernel); conv => whnf)
        | ((with_reducible refine growx_pre ?_ ?_); (· exact ⟨_, rfl⟩); conv => whnf)
        | ((with_reducible refine needm_of ?_ ?_); (· first | assumption | exact decide_eq_true (by omega) | exact mkOK_of (by decide) | decide +kernel | (refine decide_eq_true ?_; simp (disch := omega) only [i64w]; omega)); conv => whnf)
        | ((with_reducible refine condm_pos ?_ ?_); (· assumption); conv => whnf)
        | ((with_reducible refine condm_neg ?_ ?_); (· assumption); conv => whnf)
        | ((with_reducible refine forceL_fv (by assumption) ?_); conv => whnf)
        | ((with_reducible refine forceL_rfv (by assumption) ?_); conv => whnf)
        | ((with_reducible refine forceNm_of ?_); conv => whnf)
        | ((with_reducible refine needm_of (fv_lenL (by assumption) (by assumption)) ?_); conv => whnf)
        | ((with_reducible refine optm_var (fv_strL (by assumption) (by assumption)) (fun s hs => ?_)); conv => whnf)
        | ((with_reducible refine forceA_of ?_); conv => whnf)
        | ((with_reducible refine forceL_pl (by assumption) ?_); conv => whnf)
        | ((with_reducible refine forceL_rpl (by assumption) ?_); conv => whnf)
        | ((with_reducible refine needm_of ?_ ?_); (· first | (rw [hxl, hzl]; rfl) | (rw [hxl]; rfl) | (rw [hwl, hzl]; rfl) | (rw [hwl]; rfl)); conv => whnf)
        | ((with_reducible refine forceL_to (whole_of ?_) ?_); (· first | (rw [hxl]; rfl) | (rw [hwl]; rfl)); conv => whnf)
        | ((with_reducible refine forceL_to (store_all ?_) ?_); (· first | rw [hxl, hzl] | rw [hwl, hzl]); conv => whnf)
        | fail)
      have hx1 : List.drop 0 (List.take (0 + 1 * Try.prog.types[53].size) wr) = wr := whole_of (by rw [hwl]; rfl)
      have hwr' : wr = (Cf.mk x d).row := hwr
      refine condm_of (fun h2 => ?_) (fun h2 => ?_)
      · have h2' := of_decide_eq_true h2
        refine needx_of (decide_eq_true (by rw [hx1, hwl, hcl, s53]; omega)) ?_
        conv => whnf
        refine forceL_var (l' := cfs (C ++ [⟨x, d⟩] ++ y.tail)) (by rw [hx1]; exact cf_in hcs hwr' (by rw [s53, hn]; omega) (by omega)) (fun cs2 hcs2 => ?_)
        have hp2 := Pl.cfs hcs2
        conv => whnf
        repeat' (first
          | rw [← hz4]
          | rw [hrz]
          | rw [Nat.zero_mul Try.prog.types[53].size]
          | ((with_reducible refine regx_of ?_ ?_); (· decide +kernel); conv => whnf)
          | ((with_reducible refine growx_pre ?_ ?_); (· exact ⟨_, rfl⟩); conv => whnf)
          | ((with_reducible refine needm_of ?_ ?_); (· first | assumption | exact decide_eq_true (by omega) | exact mkOK_of (by decide) | decide +kernel | (refine decide_eq_true ?_; simp (disch := omega) only [i64w]; omega)); conv => whnf)
          | ((with_reducible refine condm_pos ?_ ?_); (· assumption); conv => whnf)
          | ((with_reducible refine condm_neg ?_ ?_); (· assumption); conv => whnf)
          | ((with_reducible refine forceL_fv (by assumption) ?_); conv => whnf)
          | ((with_reducible refine forceL_rfv (by assumption) ?_); conv => whnf)
          | ((with_reducible refine forceNm_of ?_); conv => whnf)
          | ((with_reducible refine needm_of (fv_lenL (by assumption) (by assumption)) ?_); conv => whnf)
          | ((with_reducible refine optm_var (fv_strL (by assumption) (by assumption)) (fun s hs => ?_)); conv => whnf)
          | ((with_reducible refine forceA_of ?_); conv => whnf)
          | ((with_reducible refine forceL_pl (by assumption) ?_); conv => whnf)
          | ((with_reducible refine forceL_rpl (by assumption) ?_); conv => whnf)
          | ((with_reducible refine needm_of ?_ ?_); (· first | (rw [hxl, hzl]; rfl) | (rw [hxl]; rfl) | (rw [hwl, hzl]; rfl) | (rw [hwl]; rfl)); conv => whnf)
          | ((with_reducible refine forceL_to (whole_of ?_) ?_); (· first | (rw [hxl]; rfl) | (rw [hwl]; rfl)); conv => whnf)
          | ((with_reducible refine forceL_to (store_all ?_) ?_); (· first | rw [hxl, hzl] | rw [hwl, hzl]); conv => whnf)
          | fail)
        rw [show (n + 1 : Nat) = (C ++ [(⟨x, d⟩ : Cf)]).length from hlx.symm]
        exact keepOf (v₀ := .a (.slc 0 0 (C ++ [(⟨x, d⟩ : Cf)]).length cap)) [.cells cs2 53 mk] [0] rfl ⟨ren_pl hp2 _ _ _, trivial⟩ (by simp [nodupb, baseb, Ob.okb, frmOk, V.okb, A.okb, hp2.2] <;> decide) (hK2 hall y.tail cs2 hcs2 (by rw [hlx, List.length_tail]; omega))
      · have h2' := of_decide_eq_false h2
        refine needx_of (decide_eq_true ⟨by rw [hcl, s53]; omega, by rw [b53]; omega, by omega⟩) ?_
        intro cap2 hcap2
        conv => whnf
        repeat' (first
          | rw [← hz4]
          | rw [hrz]
          | rw [Nat.zero_mul Try.prog.types[53].size]
          | ((with_reducible refine regx_of ?_ ?_); (· decide +kernel); conv => whnf)
          | ((with_reducible refine growx_pre ?_ ?_); (· exact ⟨_, rfl⟩); conv => whnf)
          | ((with_reducible refine needm_of ?_ ?_); (· first | assumption | exact decide_eq_true (by omega) | exact mkOK_of (by decide) | decide +kernel | (refine decide_eq_true ?_; simp (disch := omega) only [i64w]; omega)); conv => whnf)
          | ((with_reducible refine condm_pos ?_ ?_); (· assumption); conv => whnf)
          | ((with_reducible refine condm_neg ?_ ?_); (· assumption); conv => whnf)
          | ((with_reducible refine forceL_fv (by assumption) ?_); conv => whnf)
          | ((with_reducible refine forceL_rfv (by assumption) ?_); conv => whnf)
          | ((with_reducible refine forceNm_of ?_); conv => whnf)
          | ((with_reducible refine needm_of (fv_lenL (by assumption) (by assumption)) ?_); conv => whnf)
          | ((with_reducible refine optm_var (fv_strL (by assumption) (by assumption)) (fun s hs => ?_)); conv => whnf)
          | ((with_reducible refine forceA_of ?_); conv => whnf)
          | ((with_reducible refine forceL_pl (by assumption) ?_); conv => whnf)
          | ((with_reducible refine forceL_rpl (by assumption) ?_); conv => whnf)
          | ((with_reducible refine needm_of ?_ ?_); (· first | (rw [hxl, hzl]; rfl) | (rw [hxl]; rfl) | (rw [hwl, hzl]; rfl) | (rw [hwl]; rfl)); conv => whnf)
          | ((with_reducible refine forceL_to (whole_of ?_) ?_); (· first | (rw [hxl]; rfl) | (rw [hwl]; rfl)); conv => whnf)
          | ((with_reducible refine forceL_to (store_all ?_) ?_); (· first | rw [hxl, hzl] | rw [hwl, hzl]); conv => whnf)
          | fail)
        refine forceL_var (l' := cfs (C ++ [⟨x, d⟩] ++ List.replicate (cap2 - (n + 1)) y0)) (by rw [hx1]; exact cf_new hcs hwr' (by rw [s53, hn]) hz4) (fun cs2 hcs2 => ?_)
        have hp2 := Pl.cfs hcs2
        conv => whnf
        repeat' (first
          | rw [← hz4]
          | rw [hrz]
          | rw [Nat.zero_mul Try.prog.types[53].size]
          | ((with_reducible refine regx_of ?_ ?_); (· decide +kernel); conv => whnf)
          | ((with_reducible refine growx_pre ?_ ?_); (· exact ⟨_, rfl⟩); conv => whnf)
          | ((with_reducible refine needm_of ?_ ?_); (· first | assumption | exact decide_eq_true (by omega) | exact mkOK_of (by decide) | decide +kernel | (refine decide_eq_true ?_; simp (disch := omega) only [i64w]; omega)); conv => whnf)
          | ((with_reducible refine condm_pos ?_ ?_); (· assumption); conv => whnf)
          | ((with_reducible refine condm_neg ?_ ?_); (· assumption); conv => whnf)
          | ((with_reducible refine forceL_fv (by assumption) ?_); conv => whnf)
          | ((with_reducible refine forceL_rfv (by assumption) ?_); conv => whnf)
          | ((with_reducible refine forceNm_of ?_); conv => whnf)
          | ((with_reducible refine needm_of (fv_lenL (by assumption) (by assumption)) ?_); conv => whnf)
          | ((with_reducible refine optm_var (fv_strL (by assumption) (by assumption)) (fun s hs => ?_)); conv => whnf)
          | ((with_reducible refine forceA_of ?_); conv => whnf)
          | ((with_reducible refine forceL_pl (by assumption) ?_); conv => whnf)
          | ((with_reducible refine forceL_rpl (by assumption) ?_); conv => whnf)
          | ((with_reducible refine needm_of ?_ ?_); (· first | (rw [hxl, hzl]; rfl) | (rw [hxl]; rfl) | (rw [hwl, hzl]; rfl) | (rw [hwl]; rfl)); conv => whnf)
          | ((with_reducible refine forceL_to (whole_of ?_) ?_); (· first | (rw [hxl]; rfl) | (rw [hwl]; rfl)); conv => whnf)
          | ((with_reducible refine forceL_to (store_all ?_) ?_); (· first | rw [hxl, hzl] | rw [hwl, hzl]); conv => whnf)
          | fail)
        rw [show (n + 1 : Nat) = (C ++ [(⟨x, d⟩ : Cf)]).length from hlx.symm]
        exact keepOf (v₀ := .a (.slc 1 0 (C ++ [(⟨x, d⟩ : Cf)]).length cap2)) [.cells cs 53 mk, .cells cs2 53 false] [0, 3] rfl ⟨ren_pl hp _ _ _, ren_pl hp2 _ _ _, trivial⟩ (by simp [nodupb, baseb, Ob.okb, frmOk, V.okb, A.okb, hp.2, hp2.2] <;> decide) (hK3 hall _ cs2 cap2 hcs2 (by rw [hlx, List.length_replicate]; omega))
end
end Go.Proofs.Ytkggpkgnkppceaa.LK
