import Derived.Test.YtkggpkgnkppceaaLC
namespace Go.Proofs.Ytkggpkgnkppceaa.LK
open Go.Eng
set_option maxRecDepth 100000
theorem whole_of {l : List A} {n : Nat} (h : l.length = n) : List.drop 0 (List.take (0 + n) l) = l := by
  rw [Nat.zero_add, List.drop_zero, List.take_of_length_le (by omega)]
theorem fl_in {cs xr : List A} {L y : List Fl} {x : Fl} {o : Nat} (e : cs = fls (L ++ y)) (hx : xr = x.row) (ho : o = L.length * 3) (hy : 0 < y.length) : storeL cs o xr = fls (L ++ [x] ++ y.tail) := by
  subst hx
  rw [fls_put e (i := L.length) (by rw [List.length_append]; omega) x ho]
  congr 1
  cases y with
  | nil => simp at hy
  | cons a y => simp
theorem fl_new {cs xr zs : List A} {L y : List Fl} {x : Fl} {o n : Nat} (e : cs = fls (L ++ y)) (hx : xr = x.row) (ho : o = L.length * 3) (hz : zs = [.int .u8 0, .int .u8 0, .str ByteArray.empty]) :
    List.drop 0 (List.take (0 + o) cs) ++ xr ++ repl zs (n * 3) = fls (L ++ [x] ++ List.replicate n z0) := by
  subst hx hz
  rw [Nat.zero_add, ho, fls_take e _ (by simp), List.take_left' rfl, List.drop_zero, fls_zeros, fls_append, fls_append]
  congr 2
  rw [fls_cons, fls_nil, List.append_nil]
section
variable {ro : Addr → A → Prop}
set_option maxHeartbeats 1000000 in
theorem put24n (room : Nat) (h1 : 1 ≤ room) (x : Fl) (xr : List A) (hxr : xr = x.row) {K : V → Hp → Prop}
    (hK : ∀ y cs cap mk, cs = fls ([x] ++ y) → cap = 1 + y.length → K (.a (.int .i64 0)) [.cells [.int .i64 room, .slc 1 0 1 cap] 57 false, .cells cs 61 mk]) :
    Go.Eng.Fn Try.prog ro 24 [.a (.ptr 0 0), .g xr] [.cells [.int .i64 room, .nils] 57 false] K := by
  obtain ⟨z3, hz3⟩ : ∃ z : List A, z = [.int .u8 0, .int .u8 0, .str { data := #[] }] := ⟨_, rfl⟩
  have hzp : Pl z3 := by rw [hz3]; exact ⟨fun _ => rfl, fun _ => rfl⟩
  have hzl : z3.length = 3 := by rw [hz3]; rfl
  have hrz : repl z3 (1 * Try.prog.types[61].size) = z3 := by rw [hz3]; rfl
  have hxp : Pl xr := by rw [hxr]; exact ⟨fun _ => rfl, fun _ => rfl⟩
  have hxl : xr.length = 3 := by rw [hxr]; rfl
  have c1 : decide ((0 : Int) ≥ (room : Int)) = false := decide_eq_false (by omega)
  refine Go.Eng.Fn.weak ?_
  refine Go.Eng.Fn.of 1 h24 rfl Try.func24 rfl (Nat.le_of_ble_eq_true rfl) ?_
  conv => whnf
  repeat' (first
    | rw [← hz3]
    | rw [hrz]
    | rw [Nat.zero_mul Try.prog.types[61].size]
    | ((with_reducible refine regx_of ?_ ?_); (· decide +kernel); conv => whnf)
    | ((with_reducible refine growx_pre ?_ ?_); (· exact ⟨_, rfl⟩); conv => whnf)
    | ((with_reducible refine needm_of ?_ ?_); (· first | assumption | exact decide_eq_true (by omega) | exact mkOK_of (by decide) | decide +kernel | (refine decide_eq_true ?_; simp (disch := omega) only [i64w]; omega)); conv => whnf)
    | ((with_reducible refine condm_pos ?_ ?_); (· assumption); conv => whnf)
    | ((with_reducible refine condm_neg ?_ ?_); (· assumption); conv => whnf)
    | ((with_reducible refine forceL_fv (by assumption) ?_); conv => whnf)
    | ((with_reducible refine forceL_rfv (by assumption) ?_); conv => whnf)
    | ((with_reducible refine forceNm_of ?_); conv => whnf)
    | ((with_reducible refine needm_of (fv_lenL (by assumption) (by assumption)) ?_); conv => whnf)
    | ((with_reducible refine optm_var (fv_strL (by assumption) (by assumption)) (fun s hs => ?_)); conv => whnf)
    | ((with_reducible refine forceA_of ?_); conv => whnf)
    | ((with_reducible refine forceL_pl (by assumption) ?_); conv => whnf)
    | ((with_reducible refine forceL_rpl (by assumption) ?_); conv => whnf)
    | ((with_reducible refine needm_of ?_ ?_); (· first | (rw [hxl, hzl]; rfl) | (rw [hxl]; rfl)); conv => whnf)
    | ((with_reducible refine forceL_to (whole_of ?_) ?_); (· rw [hxl]; rfl); conv => whnf)
    | ((with_reducible refine forceL_to (store_all ?_) ?_); (· rw [hxl, hzl]); conv => whnf)
    | fail)
  intro cap hcap
  conv => whnf
  repeat' (first
    | rw [← hz3]
    | rw [hrz]
    | rw [Nat.zero_mul Try.prog.types[61].size]
    | ((with_reducible refine regx_of ?_ ?_); (· decide +kernel); conv => whnf)
    | ((with_reducible refine growx_pre ?_ ?_); (· exact ⟨_, rfl⟩); conv => whnf)
    | ((with_reducible refine needm_of ?_ ?_); (· first | assumption | exact decide_eq_true (by omega) | exact mkOK_of (by decide) | decide +kernel | (refine decide_eq_true ?_; simp (disch := omega) only [i64w]; omega)); conv => whnf)
    | ((with_reducible refine condm_pos ?_ ?_); (· assumption); conv => whnf)
    | ((with_reducible refine condm_neg ?_ ?_); (· assumption); conv => whnf)
    | ((with_reducible refine forceL_fv (by assumption) ?_); conv => whnf)
    | ((with_reducible refine forceL_rfv (by assumption) ?_); conv => whnf)
    | ((with_reducible refine forceNm_of ?_); conv => whnf)
    | ((with_reducible refine needm_of (fv_lenL (by assumption) (by assumption)) ?_); conv => whnf)
    | ((with_reducible refine optm_var (fv_strL (by assumption) (by assumption)) (fun s hs => ?_)); conv => whnf)
    | ((with_reducible refine forceA_of ?_); conv => whnf)
    | ((with_reducible refine forceL_pl (by assumption) ?_); conv => whnf)
    | ((with_reducible refine forceL_rpl (by assumption) ?_); conv => whnf)
    | ((with_reducible refine needm_of ?_ ?_); (· first | (rw [hxl, hzl]; rfl) | (rw [hxl]; rfl)); conv => whnf)
    | ((with_reducible refine forceL_to (whole_of ?_) ?_); (· rw [hxl]; rfl); conv => whnf)
    | ((with_reducible refine forceL_to (store_all ?_) ?_); (· rw [hxl, hzl]); conv => whnf)
    | fail)
  refine forceL_var (l' := fls ([x] ++ List.replicate (cap - 1) z0)) ?_ (fun cs hcs => ?_)
  · have hx1 : List.drop 0 (List.take (0 + 1 * Try.prog.types[61].size) xr) = xr := whole_of (by rw [hxl]; rfl)
    rw [hx1, hz3, s61, Nat.zero_add, fls_append, ← fls_zeros, fls_cons, fls_nil, List.append_nil, hxr]
    rfl
  have hcp := Pl.fls hcs
  conv => whnf
  repeat' (first
    | rw [← hz3]
    | rw [hrz]
    | rw [Nat.zero_mul Try.prog.types[61].size]
    | ((with_reducible refine regx_of ?_ ?_); (· decide +kernel); conv => whnf)
    | ((with_reducible refine growx_pre ?_ ?_); (· exact ⟨_, rfl⟩); conv => whnf)
    | ((with_reducible refine needm_of ?_ ?_); (· first | assumption | exact decide_eq_true (by omega) | exact mkOK_of (by decide) | decide +kernel | (refine decide_eq_true ?_; simp (disch := omega) only [i64w]; omega)); conv => whnf)
    | ((with_reducible refine condm_pos ?_ ?_); (· assumption); conv => whnf)
    | ((with_reducible refine condm_neg ?_ ?_); (· assumption); conv => whnf)
    | ((with_reducible refine forceL_fv (by assumption) ?_); conv => whnf)
    | ((with_reducible refine forceL_rfv (by assumption) ?_); conv => whnf)
    | ((with_reducible refine forceNm_of ?_); conv => whnf)
    | ((with_reducible refine needm_of (fv_lenL (by assumption) (by assumption)) ?_); conv => whnf)
    | ((with_reducible refine optm_var (fv_strL (by assumption) (by assumption)) (fun s hs => ?_)); conv => whnf)
    | ((with_reducible refine forceA_of ?_); conv => whnf)
    | ((with_reducible refine forceL_pl (by assumption) ?_); conv => whnf)
    | ((with_reducible refine forceL_rpl (by assumption) ?_); conv => whnf)
    | ((with_reducible refine needm_of ?_ ?_); (· first | (rw [hxl, hzl]; rfl) | (rw [hxl]; rfl)); conv => whnf)
    | ((with_reducible refine forceL_to (whole_of ?_) ?_); (· rw [hxl]; rfl); conv => whnf)
    | ((with_reducible refine forceL_to (store_all ?_) ?_); (· rw [hxl, hzl]); conv => whnf)
    | fail)
  exact keepOf (v₀ := .a (.int .i64 0)) [.cells [.int .i64 room, .slc 1 0 1 cap] 57 false, .cells cs 61 false] [0, 3] rfl ⟨rfl, ren_pl hcp _ _ _, trivial⟩ (by simp [nodupb, baseb, Ob.okb, frmOk, V.okb, A.okb, hcp.2] <;> decide) (hK _ cs cap false hcs (by rw [List.length_replicate]; omega))
set_option maxHeartbeats 1000000 in
theorem put24 (room : Nat) (x : Fl) (xr : List A) (hxr : xr = x.row) (L y : List Fl) (cs : List A) (cap : Nat) (mk : Bool) (hcs : cs = fls (L ++ y)) (hcap : cap = L.length + y.length) (hL : L.length ≤ 1024) {K : V → Hp → Prop}
    (hK1 : room ≤ L.length → K (.a (.int .i64 3)) [.cells [.int .i64 room, .slc 1 0 L.length cap] 57 false, .cells cs 61 mk])
    (hK2 : L.length < room → ∀ y cs, cs = fls ((L ++ [x]) ++ y) → cap = (L ++ [x]).length + y.length → K (.a (.int .i64 0)) [.cells [.int .i64 room, .slc 1 0 (L ++ [x]).length cap] 57 false, .cells cs 61 mk])
    (hK3 : L.length < room → ∀ y cs' cap', cs' = fls ((L ++ [x]) ++ y) → cap' = (L ++ [x]).length + y.length → K (.a (.int .i64 0)) [.cells [.int .i64 room, .slc 2 0 (L ++ [x]).length cap'] 57 false, .cells cs 61 mk, .cells cs' 61 false]) :
    Go.Eng.Fn Try.prog ro 24 [.a (.ptr 0 0), .g xr] [.cells [.int .i64 room, .slc 1 0 L.length cap] 57 false, .cells cs 61 mk] K := by
  have hcp := Pl.fls hcs
  have hcl : cs.length = (L.length + y.length) * 3 := by rw [hcs, fls_length, List.length_append]
  have hlx : (L ++ [x]).length = L.length + 1 := by simp
  obtain ⟨z3, hz3⟩ : ∃ z : List A, z = [.int .u8 0, .int .u8 0, .str { data := #[] }] := ⟨_, rfl⟩
  have hzp : Pl z3 := by rw [hz3]; exact ⟨fun _ => rfl, fun _ => rfl⟩
  have hzl : z3.length = 3 := by rw [hz3]; rfl
  have hrz : repl z3 (1 * Try.prog.types[61].size) = z3 := by rw [hz3]; rfl
  have hxp : Pl xr := by rw [hxr]; exact ⟨fun _ => rfl, fun _ => rfl⟩
  have hxl : xr.length = 3 := by rw [hxr]; rfl
  have hx1 : List.drop 0 (List.take (0 + 1 * Try.prog.types[61].size) xr) = xr := whole_of (by rw [hxl]; rfl)
  refine Go.Eng.Fn.weak ?_
  refine Go.Eng.Fn.of 2 h24 rfl Try.func24 rfl (Nat.le_of_ble_eq_true rfl) ?_
  conv => whnf
  generalize hn : L.length = n at *
  repeat' (first
    | rw [← hz3]
    | rw [hrz]
    | rw [Nat.zero_mul Try.prog.types[61].size]
    | ((with_reducible refine regx_of ?_ ?_); (· decide +kernel); conv => whnf)
    | ((with_reducible refine growx_pre ?_ ?_); (· exact ⟨_, rfl⟩); conv => whnf)
    | ((with_reducible refine needm_of ?_ ?_); (· first | assumption | exact decide_eq_true (by omega) | exact mkOK_of (by decide) | decide +kernel | (refine decide_eq_true ?_; simp (disch := omega) only [i64w]; omega)); conv => whnf)
    | ((with_reducible refine condm_pos ?_ ?_); (· assumption); conv => whnf)
    | ((with_reducible refine condm_neg ?_ ?_); (· assumption); conv => whnf)
    | ((with_reducible refine forceL_fv (by assumption) ?_); conv => whnf)
    | ((with_reducible refine forceL_rfv (by assumption) ?_); conv => whnf)
    | ((with_reducible refine forceNm_of ?_); conv => whnf)
    | ((with_reducible refine needm_of (fv_lenL (by assumption) (by assumption)) ?_); conv => whnf)
    | ((with_reducible refine optm_var (fv_strL (by assumption) (by assumption)) (fun s hs => ?_)); conv => whnf)
    | ((with_reducible refine forceA_of ?_); conv => whnf)
    | ((with_reducible refine forceL_pl (by assumption) ?_); conv => whnf)
    | ((with_reducible refine forceL_rpl (by assumption) ?_); conv => whnf)
    | ((with_reducible refine needm_of ?_ ?_); (· first | (rw [hxl, hzl]; rfl) | (rw [hxl]; rfl)); conv => whnf)
    | ((with_reducible refine forceL_to (whole_of ?_) ?_); (· rw [hxl]; rfl); conv => whnf)
    | ((with_reducible refine forceL_to (store_all ?_) ?_); (· rw [hxl, hzl]); conv => whnf)
    | fail)
  refine condm_of (fun h => ?_) (fun h => ?_)
  · have h' := of_decide_eq_true h
    conv => whnf
    repeat' (first
      | rw [← hz3]
      | rw [hrz]
      | rw [Nat.zero_mul Try.prog.types[61].size]
      | ((with_reducible refine regx_of ?_ ?_); (· decide +kernel); conv => whnf)
      | ((with_reducible refine growx_pre ?_ ?_); (· exact ⟨_, rfl⟩); conv => whnf)
      | ((with_reducible refine needm_of ?_ ?_); (· first | assumption | exact decide_eq_true (by omega) | exact mkOK_of (by decide) | decide +kernel | (refine decide_eq_true ?_; simp (disch := omega) only [i64w]; omega)); conv => whnf)
      | ((with_reducible refine condm_pos ?_ ?_); (· assumption); conv => whnf)
      | ((with_reducible refine condm_neg ?_ ?_); (· assumption); conv => whnf)
      | ((with_reducible refine forceL_fv (by assumption) ?_); conv => whnf)
      | ((with_reducible refine forceL_rfv (by assumption) ?_); conv => whnf)
      | ((with_reducible refine forceNm_of ?_); conv => whnf)
      | ((with_reducible refine needm_of (fv_lenL (by assumption) (by assumption)) ?_); conv => whnf)
      | ((with_reducible refine optm_var (fv_strL (by assumption) (by assumption)) (fun s hs => ?_)); conv => whnf)
      | ((with_reducible refine forceA_of ?_); conv => whnf)
      | ((with_reducible refine forceL_pl (by assumption) ?_); conv => whnf)
      | ((with_reducible refine forceL_rpl (by assumption) ?_); conv => whnf)
      | ((with_reducible refine needm_of ?_ ?_); (· first | (rw [hxl, hzl]; rfl) | (rw [hxl]; rfl)); conv => whnf)
      | ((with_reducible refine forceL_to (whole_of ?_) ?_); (· rw [hxl]; rfl); conv => whnf)
      | ((with_reducible refine forceL_to (store_all ?_) ?_); (· rw [hxl, hzl]); conv => whnf)
      | fail)
    exact keepOf (v₀ := .a (.int .i64 3)) [.cells [.int .i64 room, .slc 1 0 n cap] 57 false, .cells cs 61 mk] [0, 1] rfl ⟨rfl, ren_pl hcp _ _ _, trivial⟩ (by simp [nodupb, baseb, Ob.okb, frmOk, V.okb, A.okb, hcp.2] <;> decide) (hK1 (by omega))
  · have h' := of_decide_eq_false h
    conv => whnf
    repeat' (first
      | rw [← hz3]
      | rw [hrz]
      | rw [Nat.zero_mul Try.prog.types[61].size]
      | ((with_reducible refine regx_of ?_ ?_); (· decide +kernel); conv => whnf)
      | ((with_reducible refine growx_pre ?_ ?_); (· exact ⟨_, rfl⟩); conv => whnf)
      | ((with_reducible refine needm_of ?_ ?_); (· first | assumption | exact decide_eq_true (by omega) | exact mkOK_of (by decide) | decide +kernel | (refine decide_eq_true ?_; simp (disch := omega) only [i64w]; omega)); conv => whnf)
      | ((with_reducible refine condm_pos ?_ ?_); (· assumption); conv => whnf)
      | ((with_reducible refine condm_neg ?_ ?_); (· assumption); conv => whnf)
      | ((with_reducible refine forceL_fv (by assumption) ?_); conv => whnf)
      | ((with_reducible refine forceL_rfv (by assumption) ?_); conv => whnf)
      | ((with_reducible refine forceNm_of ?_); conv => whnf)
      | ((with_reducible refine needm_of (fv_lenL (by assumption) (by assumption)) ?_); conv => whnf)
      | ((with_reducible refine optm_var (fv_strL (by assumption) (by assumption)) (fun s hs => ?_)); conv => whnf)
      | ((with_reducible refine forceA_of ?_); conv => whnf)
      | ((with_reducible refine forceL_pl (by assumption) ?_); conv => whnf)
      | ((with_reducible refine forceL_rpl (by assumption) ?_); conv => whnf)
      | ((with_reducible refine needm_of ?_ ?_); (· first | (rw [hxl, hzl]; rfl) | (rw [hxl]; rfl)); conv => whnf)
      | ((with_reducible refine forceL_to (whole_of ?_) ?_); (· rw [hxl]; rfl); conv => whnf)
      | ((with_reducible refine forceL_to (store_all ?_) ?_); (· rw [hxl, hzl]); conv => whnf)
      | fail)
    rw [hx1]
    refine condm_of (fun hc => ?_) (fun hc => ?_)
    · have hc' := of_decide_eq_true hc
      conv => whnf
      refine needm_of (decide_eq_true (by rw [s61, hxl, hcl]; omega)) ?_
      conv => whnf
      repeat' (first
        | rw [← hz3]
        | rw [hrz]
        | rw [Nat.zero_mul Try.prog.types[61].size]
        | ((with_reducible refine regx_of ?_ ?_); (· decide +kernel); conv => whnf)
        | ((with_reducible refine growx_pre ?_ ?_); (· exact ⟨_, rfl⟩); conv => whnf)
        | ((with_reducible refine needm_of ?_ ?_); (· first | assumption | exact decide_eq_true (by omega) | exact mkOK_of (by decide) | decide +kernel | (refine decide_eq_true ?_; simp (disch := omega) only [i64w]; omega)); conv => whnf)
        | ((with_reducible refine condm_pos ?_ ?_); (· assumption); conv => whnf)
        | ((with_reducible refine condm_neg ?_ ?_); (· assumption); conv => whnf)
        | ((with_reducible refine forceL_fv (by assumption) ?_); conv => whnf)
        | ((with_reducible refine forceL_rfv (by assumption) ?_); conv => whnf)
        | ((with_reducible refine forceNm_of ?_); conv => whnf)
        | ((with_reducible refine needm_of (fv_lenL (by assumption) (by assumption)) ?_); conv => whnf)
        | ((with_reducible refine optm_var (fv_strL (by assumption) (by assumption)) (fun s hs => ?_)); conv => whnf)
        | ((with_reducible refine forceA_of ?_); conv => whnf)
        | ((with_reducible refine forceL_pl (by assumption) ?_); conv => whnf)
        | ((with_reducible refine forceL_rpl (by assumption) ?_); conv => whnf)
        | ((with_reducible refine needm_of ?_ ?_); (· first | (rw [hxl, hzl]; rfl) | (rw [hxl]; rfl)); conv => whnf)
        | ((with_reducible refine forceL_to (whole_of ?_) ?_); (· rw [hxl]; rfl); conv => whnf)
        | ((with_reducible refine forceL_to (store_all ?_) ?_); (· rw [hxl, hzl]); conv => whnf)
        | fail)
      refine forceL_var (fl_in hcs hxr (by rw [s61, hn, Nat.zero_add]) (by omega)) (fun cs2 hcs2 => ?_)
      have hcp2 := Pl.fls hcs2
      conv => whnf
      repeat' (first
        | rw [← hz3]
        | rw [hrz]
        | rw [Nat.zero_mul Try.prog.types[61].size]
        | ((with_reducible refine regx_of ?_ ?_); (· decide +kernel); conv => whnf)
        | ((with_reducible refine growx_pre ?_ ?_); (· exact ⟨_, rfl⟩); conv => whnf)
        | ((with_reducible refine needm_of ?_ ?_); (· first | assumption | exact decide_eq_true (by omega) | exact mkOK_of (by decide) | decide +kernel | (refine decide_eq_true ?_; simp (disch := omega) only [i64w]; omega)); conv => whnf)
        | ((with_reducible refine condm_pos ?_ ?_); (· assumption); conv => whnf)
        | ((with_reducible refine condm_neg ?_ ?_); (· assumption); conv => whnf)
        | ((with_reducible refine forceL_fv (by assumption) ?_); conv => whnf)
        | ((with_reducible refine forceL_rfv (by assumption) ?_); conv => whnf)
        | ((with_reducible refine forceNm_of ?_); conv => whnf)
        | ((with_reducible refine needm_of (fv_lenL (by assumption) (by assumption)) ?_); conv => whnf)
        | ((with_reducible refine optm_var (fv_strL (by assumption) (by assumption)) (fun s hs => ?_)); conv => whnf)
        | ((with_reducible refine forceA_of ?_); conv => whnf)
        | ((with_reducible refine forceL_pl (by assumption) ?_); conv => whnf)
        | ((with_reducible refine forceL_rpl (by assumption) ?_); conv => whnf)
        | ((with_reducible refine needm_of ?_ ?_); (· first | (rw [hxl, hzl]; rfl) | (rw [hxl]; rfl)); conv => whnf)
        | ((with_reducible refine forceL_to (whole_of ?_) ?_); (· rw [hxl]; rfl); conv => whnf)
        | ((with_reducible refine forceL_to (store_all ?_) ?_); (· rw [hxl, hzl]); conv => whnf)
        | fail)
      have hk := hK2 (by omega) y.tail cs2 hcs2 (by rw [List.length_tail, List.length_append, List.length_singleton]; omega)
      rw [List.length_append, List.length_singleton, hn] at hk
      exact keepOf (v₀ := .a (.int .i64 0)) [.cells [.int .i64 room, .slc 1 0 (n + 1) cap] 57 false, .cells cs2 61 mk] [0, 1] rfl ⟨rfl, ren_pl hcp2 _ _ _, trivial⟩ (by simp [nodupb, baseb, Ob.okb, frmOk, V.okb, A.okb, hcp2.2] <;> decide) hk
    · have hc' := of_decide_eq_false hc
      conv => whnf
      refine needm_of (decide_eq_true (by rw [s61, b61, hcl]; omega)) ?_
      intro cap' hcap'
      conv => whnf
      repeat' (first
        | rw [← hz3]
        | rw [hrz]
        | rw [Nat.zero_mul Try.prog.types[61].size]
        | ((with_reducible refine regx_of ?_ ?_); (· decide +kernel); conv => whnf)
        | ((with_reducible refine growx_pre ?_ ?_); (· exact ⟨_, rfl⟩); conv => whnf)
        | ((with_reducible refine needm_of ?_ ?_); (· first | assumption | exact decide_eq_true (by omega) | exact mkOK_of (by decide) | decide +kernel | (refine decide_eq_true ?_; simp (disch := omega) only [i64w]; omega)); conv => whnf)
        | ((with_reducible refine condm_pos ?_ ?_); (· assumption); conv => whnf)
        | ((with_reducible refine condm_neg ?_ ?_); (· assumption); conv => whnf)
        | ((with_reducible refine forceL_fv (by assumption) ?_); conv => whnf)
        | ((with_reducible refine forceL_rfv (by assumption) ?_); conv => whnf)
        | ((with_reducible refine forceNm_of ?_); conv => whnf)
        | ((with_reducible refine needm_of (fv_lenL (by assumption) (by assumption)) ?_); conv => whnf)
        | ((with_reducible refine optm_var (fv_strL (by assumption) (by assumption)) (fun s hs => ?_)); conv => whnf)
        | ((with_reducible refine forceA_of ?_); conv => whnf)
        | ((with_reducible refine forceL_pl (by assumption) ?_); conv => whnf)
        | ((with_reducible refine forceL_rpl (by assumption) ?_); conv => whnf)
        | ((with_reducible refine needm_of ?_ ?_); (· first | (rw [hxl, hzl]; rfl) | (rw [hxl]; rfl)); conv => whnf)
        | ((with_reducible refine forceL_to (whole_of ?_) ?_); (· rw [hxl]; rfl); conv => whnf)
        | ((with_reducible refine forceL_to (store_all ?_) ?_); (· rw [hxl, hzl]); conv => whnf)
        | fail)
      refine forceL_var (fl_new hcs hxr (n := cap' - (n + 1)) (by rw [s61, hn]) hz3) (fun cs2 hcs2 => ?_)
      have hcp2 := Pl.fls hcs2
      conv => whnf
      repeat' (first
        | rw [← hz3]
        | rw [hrz]
        | rw [Nat.zero_mul Try.prog.types[61].size]
        | ((with_reducible refine regx_of ?_ ?_); (· decide +kernel); conv => whnf)
        | ((with_reducible refine growx_pre ?_ ?_); (· exact ⟨_, rfl⟩); conv => whnf)
        | ((with_reducible refine needm_of ?_ ?_); (· first | assumption | exact decide_eq_true (by omega) | exact mkOK_of (by decide) | decide +kernel | (refine decide_eq_true ?_; simp (disch := omega) only [i64w]; omega)); conv => whnf)
        | ((with_reducible refine condm_pos ?_ ?_); (· assumption); conv => whnf)
        | ((with_reducible refine condm_neg ?_ ?_); (· assumption); conv => whnf)
        | ((with_reducible refine forceL_fv (by assumption) ?_); conv => whnf)
        | ((with_reducible refine forceL_rfv (by assumption) ?_); conv => whnf)
        | ((with_reducible refine forceNm_of ?_); conv => whnf)
        | ((with_reducible refine needm_of (fv_lenL (by assumption) (by assumption)) ?_); conv => whnf)
        | ((with_reducible refine optm_var (fv_strL (by assumption) (by assumption)) (fun s hs => ?_)); conv => whnf)
        | ((with_reducible refine forceA_of ?_); conv => whnf)
        | ((with_reducible refine forceL_pl (by assumption) ?_); conv => whnf)
        | ((with_reducible refine forceL_rpl (by assumption) ?_); conv => whnf)
        | ((with_reducible refine needm_of ?_ ?_); (· first | (rw [hxl, hzl]; rfl) | (rw [hxl]; rfl)); conv => whnf)
        | ((with_reducible refine forceL_to (whole_of ?_) ?_); (· rw [hxl]; rfl); conv => whnf)
        | ((with_reducible refine forceL_to (store_all ?_) ?_); (· rw [hxl, hzl]); conv => whnf)
        | fail)
      have hk := hK3 (by omega) _ cs2 cap' hcs2 (by rw [List.length_replicate, List.length_append, List.length_singleton]; omega)
      rw [List.length_append, List.length_singleton, hn] at hk
      exact keepOf (v₀ := .a (.int .i64 0)) [.cells [.int .i64 room, .slc 2 0 (n + 1) cap'] 57 false, .cells cs 61 mk, .cells cs2 61 false] [0, 1, 4] rfl ⟨rfl, ren_pl hcp _ _ _, ren_pl hcp2 _ _ _, trivial⟩ (by simp [nodupb, baseb, Ob.okb, frmOk, V.okb, A.okb, hcp.2, hcp2.2] <;> decide) hk
end
end Go.Proofs.Ytkggpkgnkppceaa.LK
