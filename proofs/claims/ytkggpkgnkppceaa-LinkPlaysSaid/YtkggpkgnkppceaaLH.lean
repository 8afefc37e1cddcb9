import Derived.Test.YtkggpkgnkppceaaLG
namespace Go.Proofs.Ytkggpkgnkppceaa.LK
open Go.Eng
set_option maxRecDepth 100000
@[irreducible] def hit (o : UInt8) (x : Fl) : Bool := x.f == o || x.t == o
theorem beqI (a b : UInt8) : ((a.toNat : Int) == (b.toNat : Int)) = (a == b) := by
  by_cases h : a = b
  · subst h; simp
  · have : ¬ (a.toNat : Int) = (b.toNat : Int) := fun e => h (UInt8.toNat_inj.1 (by omega))
    rw [beq_eq_false_iff_ne.2 this, beq_eq_false_iff_ne.2 h]
theorem take_filter {p : Fl → Bool} {L : List Fl} {j : Nat} {x : Fl} (h : L[j]? = some x) : (L.take (j + 1)).filter p = (L.take j).filter p ++ (if p x then [x] else []) := by
  rw [List.take_add_one, h, List.filter_append]
  congr 1
  cases hp : p x <;> simp [hp]
theorem drop_at {L : List Fl} {j : Nat} {x : Fl} (h : L[j]? = some x) : L.drop j = x :: L.drop (j + 1) := by
  obtain ⟨hj, rfl⟩ := List.getElem?_eq_some_iff.1 h
  exact List.drop_eq_getElem_cons hj
section
variable {ro : Addr → A → Prop}
set_option maxHeartbeats 400000 in
theorem clo27 (o : UInt8) (x : Fl) (xr ob : List A) (hxr : xr = x.row) (hob : ob = [.int .u8 (o.toNat : Int)]) {K : V → Hp → Prop} (hK : ∀ b, b = hit o x → K (.a (.bool b)) [.cells ob 5 false]) :
    Go.Eng.Fn Try.prog ro 27 [.g xr, .a (.ptr 0 0)] [.cells ob 5 false] K := by
  have hop : Pl ob := by rw [hob]; exact ⟨fun _ => rfl, fun _ => rfl⟩
  have hxp : Pl xr := by rw [hxr]; exact ⟨fun _ => rfl, fun _ => rfl⟩
  have g0 : xr[0]? = some (.int .u8 (x.f.toNat : Int)) := by rw [hxr]; rfl
  have g1 : xr[1]? = some (.int .u8 (x.t.toNat : Int)) := by rw [hxr]; rfl
  have o0 : ob[0]? = some (.int .u8 (o.toNat : Int)) := by rw [hob]; rfl
  refine Go.Eng.Fn.weak ?_
  refine Go.Eng.Fn.of 1 (gOf []) rfl Try.func27 rfl (Nat.le_of_ble_eq_true rfl) ?_
  conv => whnf
  repeat' (first
    | ((with_reducible refine regx_of ?_ ?_); (· decide +kernel); conv => whnf)
    | ((with_reducible refine growx_pre ?_ ?_); (· exact ⟨_, rfl⟩); conv => whnf)
    | ((with_reducible refine needm_of ?_ ?_); (· first | assumption | exact decide_eq_true (by omega) | exact mkOK_of (by decide) | decide +kernel | (refine decide_eq_true ?_; simp (disch := omega) only [i64w]; omega)); conv => whnf)
    | ((with_reducible refine condm_pos ?_ ?_); (· assumption); conv => whnf)
    | ((with_reducible refine condm_neg ?_ ?_); (· assumption); conv => whnf)
    | ((with_reducible refine forceL_fv (by assumption) ?_); conv => whnf)
    | ((with_reducible refine forceL_rfv (by assumption) ?_); conv => whnf)
    | ((with_reducible refine forceNm_of ?_); conv => whnf)
    | ((with_reducible refine needm_of (fv_lenL (by assumption) (by assumption)) ?_); conv => whnf)
    | ((with_reducible refine optm_var (fv_strL (by assumption) (by assumption)) (fun s hs => ?_)); conv => whnf)
    | ((with_reducible refine forceA_of ?_); conv => whnf)
    | ((with_reducible refine forceL_pl (by assumption) ?_); conv => whnf)
    | ((with_reducible refine forceL_rpl (by assumption) ?_); conv => whnf)
    | ((with_reducible refine optm_of g0 ?_); conv => whnf)
    | ((with_reducible refine optm_of g1 ?_); conv => whnf)
    | ((with_reducible refine optm_of o0 ?_); conv => whnf)
    | fail)
  rw [beqI]
  cases hb : x.f == o with
  | true =>
    conv => whnf
    repeat' (first
      | ((with_reducible refine regx_of ?_ ?_); (· decide +kernel); conv => whnf)
      | ((with_reducible refine growx_pre ?_ ?_); (· exact ⟨_, rfl⟩); conv => whnf)
      | ((with_reducible refine needm_of ?_ ?_); (· first | assumption | exact decide_eq_true (by omega) | exact mkOK_of (by decide) | decide +kernel | (refine decide_eq_true ?_; simp (disch := omega) only [i64w]; omega)); conv => whnf)
      | ((with_reducible refine condm_pos ?_ ?_); (· assumption); conv => whnf)
      | ((with_reducible refine condm_neg ?_ ?_); (· assumption); conv => whnf)
      | ((with_reducible refine forceL_fv (by assumption) ?_); conv => whnf)
      | ((with_reducible refine forceL_rfv (by assumption) ?_); conv => whnf)
      | ((with_reducible refine forceNm_of ?_); conv => whnf)
      | ((with_reducible refine needm_of (fv_lenL (by assumption) (by assumption)) ?_); conv => whnf)
      | ((with_reducible refine optm_var (fv_strL (by assumption) (by assumption)) (fun s hs => ?_)); conv => whnf)
      | ((with_reducible refine forceA_of ?_); conv => whnf)
      | ((with_reducible refine forceL_pl (by assumption) ?_); conv => whnf)
      | ((with_reducible refine forceL_rpl (by assumption) ?_); conv => whnf)
      | ((with_reducible refine optm_of g1 ?_); conv => whnf)
      | ((with_reducible refine optm_of o0 ?_); conv => whnf)
      | fail)
    exact keepOf (v₀ := .a (.bool true)) [.cells ob 5 false] [0] rfl ⟨ren_pl hop _ _ _, trivial⟩ (by simp [nodupb, baseb, Ob.okb, frmOk, V.okb, A.okb, hop.2]) (hK true (by unfold hit; rw [hb]; rfl))
  | false =>
    conv => whnf
    repeat' (first
      | ((with_reducible refine regx_of ?_ ?_); (· decide +kernel); conv => whnf)
      | ((with_reducible refine growx_pre ?_ ?_); (· exact ⟨_, rfl⟩); conv => whnf)
      | ((with_reducible refine needm_of ?_ ?_); (· first | assumption | exact decide_eq_true (by omega) | exact mkOK_of (by decide) | decide +kernel | (refine decide_eq_true ?_; simp (disch := omega) only [i64w]; omega)); conv => whnf)
      | ((with_reducible refine condm_pos ?_ ?_); (· assumption); conv => whnf)
      | ((with_reducible refine condm_neg ?_ ?_); (· assumption); conv => whnf)
      | ((with_reducible refine forceL_fv (by assumption) ?_); conv => whnf)
      | ((with_reducible refine forceL_rfv (by assumption) ?_); conv => whnf)
      | ((with_reducible refine forceNm_of ?_); conv => whnf)
      | ((with_reducible refine needm_of (fv_lenL (by assumption) (by assumption)) ?_); conv => whnf)
      | ((with_reducible refine optm_var (fv_strL (by assumption) (by assumption)) (fun s hs => ?_)); conv => whnf)
      | ((with_reducible refine forceA_of ?_); conv => whnf)
      | ((with_reducible refine forceL_pl (by assumption) ?_); conv => whnf)
      | ((with_reducible refine forceL_rpl (by assumption) ?_); conv => whnf)
      | ((with_reducible refine optm_of g1 ?_); conv => whnf)
      | ((with_reducible refine optm_of o0 ?_); conv => whnf)
      | fail)
    rw [beqI]
    exact keepOf (v₀ := .a (.bool (x.t == o))) [.cells ob 5 false] [0] rfl ⟨ren_pl hop _ _ _, trivial⟩ (by simp [nodupb, baseb, Ob.okb, frmOk, V.okb, A.okb, hop.2]) (hK _ (by unfold hit; rw [hb]; rfl))
set_option maxHeartbeats 1000000 in
theorem index35 (o : UInt8) (ob : List A) (hob : ob = [.int .u8 (o.toNat : Int)]) (L y : List Fl) (cs : List A) (cap : Nat) (mk : Bool) (hcs : cs = fls (L ++ y)) (hL : L.length ≤ 1024) {K : V → Hp → Prop}
    (hK1 : (∀ j, j < L.length → ∀ x, L[j]? = some x → hit o x = false) → K (.a (.int .i64 (-1))) [.cells cs 61 mk, .cells ob 5 false])
    (hK2 : ∀ (i : Nat) x, L[i]? = some x → hit o x = true → (∀ j : Nat, j < i → ∀ x, L[j]? = some x → hit o x = false) → K (.a (.int .i64 (i : Int))) [.cells cs 61 mk, .cells ob 5 false]) :
    Go.Eng.Fn Try.prog ro 35 [.a (.slc 0 0 L.length cap), .a (.clo 27 [(1, 0)])] [.cells cs 61 mk, .cells ob 5 false] K := by
  have hop : Pl ob := by rw [hob]; exact ⟨fun _ => rfl, fun _ => rfl⟩
  have hp := Pl.fls hcs
  have hcl : cs.length = (L.length + y.length) * 3 := by rw [hcs, fls_length, List.length_append]
  generalize hn : L.length = n at *
  refine Go.Eng.Fn.weak ?_
  refine Go.Eng.Fn.of 2 (gOf []) rfl Try.func35 rfl (Nat.le_of_ble_eq_true rfl) ?_
  conv => whnf
  repeat' (first
    | ((with_reducible refine regx_of ?_ ?_); (· decide +kernel); conv => whnf)
    | ((with_reducible refine growx_pre ?_ ?_); (· exact ⟨_, rfl⟩); conv => whnf)
    | ((with_reducible refine needm_of ?_ ?_); (· first | assumption | exact decide_eq_true (by omega) | exact mkOK_of (by decide) | decide +kernel | (refine decide_eq_true ?_; simp (disch := omega) only [i64w]; omega)); conv => whnf)
    | ((with_reducible refine condm_pos ?_ ?_); (· assumption); conv => whnf)
    | ((with_reducible refine condm_neg ?_ ?_); (· assumption); conv => whnf)
    | ((with_reducible refine forceL_fv (by assumption) ?_); conv => whnf)
    | ((with_reducible refine forceL_rfv (by assumption) ?_); conv => whnf)
    | ((with_reducible refine forceNm_of ?_); conv => whnf)
    | ((with_reducible refine needm_of (fv_lenL (by assumption) (by assumption)) ?_); conv => whnf)
    | ((with_reducible refine optm_var (fv_strL (by assumption) (by assumption)) (fun s hs => ?_)); conv => whnf)
    | ((with_reducible refine forceA_of ?_); conv => whnf)
    | ((with_reducible refine forceL_pl (by assumption) ?_); conv => whnf)
    | ((with_reducible refine forceL_rpl (by assumption) ?_); conv => whnf)
    | fail)
  refine loopx_of (fun m F H => ∃ i : Nat, i ≤ n ∧ m = n - i ∧ (∀ j : Nat, j < i → ∀ x, L[j]? = some x → hit o x = false) ∧ F = [(0, .a (.slc 0 0 n cap)), (1, .a (.clo 27 [(1, 0)])), (7, .a (.int .i64 n)), (8, .a (.int .i64 i))] ∧ H = [.cells cs 61 mk, .cells ob 5 false]) n ?_ ?_
  · refine Into.weak [0, 1] _ _ ⟨0, by omega, rfl, fun j hj => absurd hj (Nat.not_lt_zero j), rfl, rfl⟩ ⟨rfl, rfl, rfl, rfl, trivial⟩ ⟨ren_pl hp _ _ _, ren_pl hop _ _ _, trivial⟩ ?_
    simp [nodupb, baseb, Ob.okb, frmOk, V.okb, A.okb, hp.2, hop.2] <;> decide
  · rintro m F H ⟨i, hi, rfl, hno, rfl, rfl⟩
    conv => whnf
    refine condm_of (fun h => ?_) (fun h => ?_)
    · have hin : i < n := by have := of_decide_eq_true h; omega
      have e4 : IntKind.i64.wrap (↑i + 1) = ((i + 1 : Nat) : Int) := by rw [i64w (by omega) (by omega)]; rfl
      have hx : L[i]? = some (L[i]'(by omega)) := List.getElem?_eq_getElem (by omega)
      have hx' : (L ++ y)[i]? = some (L[i]'(by omega)) := by rw [List.getElem?_append_left (by omega)]; exact hx
      have hr := fls_at hcs hx' (o := 0 + (i : Int).toNat * Try.prog.types[61].size) (m := 0 + (i : Int).toNat * Try.prog.types[61].size + Try.prog.types[61].size) (by rw [s61, Int.toNat_natCast]; omega) (by rw [s61, Int.toNat_natCast]; omega)
      generalize (L[i]'(by omega)) = x at *
      conv => whnf
      repeat' (first
        | ((with_reducible refine regx_of ?_ ?_); (· decide +kernel); conv => whnf)
        | ((with_reducible refine growx_pre ?_ ?_); (· exact ⟨_, rfl⟩); conv => whnf)
        | ((with_reducible refine needm_of ?_ ?_); (· first | assumption | exact decide_eq_true (by omega) | exact mkOK_of (by decide) | decide +kernel | (refine decide_eq_true ?_; simp (disch := omega) only [i64w]; omega)); conv => whnf)
        | ((with_reducible refine condm_pos ?_ ?_); (· assumption); conv => whnf)
        | ((with_reducible refine condm_neg ?_ ?_); (· assumption); conv => whnf)
        | ((with_reducible refine forceL_fv (by assumption) ?_); conv => whnf)
        | ((with_reducible refine forceL_rfv (by assumption) ?_); conv => whnf)
        | ((with_reducible refine forceNm_of ?_); conv => whnf)
        | ((with_reducible refine needm_of (fv_lenL (by assumption) (by assumption)) ?_); conv => whnf)
        | ((with_reducible refine optm_var (fv_strL (by assumption) (by assumption)) (fun s hs => ?_)); conv => whnf)
        | ((with_reducible refine forceA_of ?_); conv => whnf)
        | ((with_reducible refine forceL_pl (by assumption) ?_); conv => whnf)
        | ((with_reducible refine forceL_rpl (by assumption) ?_); conv => whnf)
        | fail)
      refine needm_of (decide_eq_true (by rw [hcl, s61, Int.toNat_natCast]; omega)) ?_
      conv => whnf
      refine forceL_var hr (fun xr hxr => ?_)
      have hxp : Pl xr := by rw [hxr]; exact ⟨fun _ => rfl, fun _ => rfl⟩
      conv => whnf
      repeat' (first
        | ((with_reducible refine regx_of ?_ ?_); (· decide +kernel); conv => whnf)
        | ((with_reducible refine growx_pre ?_ ?_); (· exact ⟨_, rfl⟩); conv => whnf)
        | ((with_reducible refine needm_of ?_ ?_); (· first | assumption | exact decide_eq_true (by omega) | exact mkOK_of (by decide) | decide +kernel | (refine decide_eq_true ?_; simp (disch := omega) only [i64w]; omega)); conv => whnf)
        | ((with_reducible refine condm_pos ?_ ?_); (· assumption); conv => whnf)
        | ((with_reducible refine condm_neg ?_ ?_); (· assumption); conv => whnf)
        | ((with_reducible refine forceL_fv (by assumption) ?_); conv => whnf)
        | ((with_reducible refine forceL_rfv (by assumption) ?_); conv => whnf)
        | ((with_reducible refine forceNm_of ?_); conv => whnf)
        | ((with_reducible refine needm_of (fv_lenL (by assumption) (by assumption)) ?_); conv => whnf)
        | ((with_reducible refine optm_var (fv_strL (by assumption) (by assumption)) (fun s hs => ?_)); conv => whnf)
        | ((with_reducible refine forceA_of ?_); conv => whnf)
        | ((with_reducible refine forceL_pl (by assumption) ?_); conv => whnf)
        | ((with_reducible refine forceL_rpl (by assumption) ?_); conv => whnf)
        | fail)
      refine Go.Eng.Fn.frame [1] (by simp [V.ren, hxp.1, A.ren, dsOf]) (by exact ⟨ren_pl hop _ _ _, trivial⟩) (by simp [nodupb, V.okb, A.okb, Ob.okb, hxp.2, hop.2]) (clo27 o x xr ob hxr hob (fun b hb => ?_))
      conv => whnf
      repeat' (first
        | ((with_reducible refine regx_of ?_ ?_); (· decide +kernel); conv => whnf)
        | ((with_reducible refine growx_pre ?_ ?_); (· exact ⟨_, rfl⟩); conv => whnf)
        | ((with_reducible refine needm_of ?_ ?_); (· first | assumption | exact decide_eq_true (by omega) | exact mkOK_of (by decide) | decide +kernel | (refine decide_eq_true ?_; simp (disch := omega) only [i64w]; omega)); conv => whnf)
        | ((with_reducible refine condm_pos ?_ ?_); (· assumption); conv => whnf)
        | ((with_reducible refine condm_neg ?_ ?_); (· assumption); conv => whnf)
        | ((with_reducible refine forceL_fv (by assumption) ?_); conv => whnf)
        | ((with_reducible refine forceL_rfv (by assumption) ?_); conv => whnf)
        | ((with_reducible refine forceNm_of ?_); conv => whnf)
        | ((with_reducible refine needm_of (fv_lenL (by assumption) (by assumption)) ?_); conv => whnf)
        | ((with_reducible refine optm_var (fv_strL (by assumption) (by assumption)) (fun s hs => ?_)); conv => whnf)
        | ((with_reducible refine forceA_of ?_); conv => whnf)
        | ((with_reducible refine forceL_pl (by assumption) ?_); conv => whnf)
        | ((with_reducible refine forceL_rpl (by assumption) ?_); conv => whnf)
        | fail)
      cases b with
      | true =>
        conv => whnf
        repeat' (first
          | ((with_reducible refine regx_of ?_ ?_); (· decide +kernel); conv => whnf)
          | ((with_reducible refine growx_pre ?_ ?_); (· exact ⟨_, rfl⟩); conv => whnf)
          | ((with_reducible refine needm_of ?_ ?_); (· first | assumption | exact decide_eq_true (by omega) | exact mkOK_of (by decide) | decide +kernel | (refine decide_eq_true ?_; simp (disch := omega) only [i64w]; omega)); conv => whnf)
          | ((with_reducible refine condm_pos ?_ ?_); (· assumption); conv => whnf)
          | ((with_reducible refine condm_neg ?_ ?_); (· assumption); conv => whnf)
          | ((with_reducible refine forceL_fv (by assumption) ?_); conv => whnf)
          | ((with_reducible refine forceL_rfv (by assumption) ?_); conv => whnf)
          | ((with_reducible refine forceNm_of ?_); conv => whnf)
          | ((with_reducible refine needm_of (fv_lenL (by assumption) (by assumption)) ?_); conv => whnf)
          | ((with_reducible refine optm_var (fv_strL (by assumption) (by assumption)) (fun s hs => ?_)); conv => whnf)
          | ((with_reducible refine forceA_of ?_); conv => whnf)
          | ((with_reducible refine forceL_pl (by assumption) ?_); conv => whnf)
          | ((with_reducible refine forceL_rpl (by assumption) ?_); conv => whnf)
          | fail)
        exact keepOf (v₀ := .a (.int .i64 (i : Int))) [.cells cs 61 mk, .cells ob 5 false] [0, 1] rfl ⟨ren_pl hp _ _ _, ren_pl hop _ _ _, trivial⟩ (by simp [nodupb, baseb, Ob.okb, frmOk, V.okb, A.okb, hp.2, hop.2] <;> decide) (hK2 i x hx hb.symm hno)
      | false =>
        conv => whnf
        repeat' (first
          | ((with_reducible refine regx_of ?_ ?_); (· decide +kernel); conv => whnf)
          | ((with_reducible refine growx_pre ?_ ?_); (· exact ⟨_, rfl⟩); conv => whnf)
          | ((with_reducible refine needm_of ?_ ?_); (· first | assumption | exact decide_eq_true (by omega) | exact mkOK_of (by decide) | decide +kernel | (refine decide_eq_true ?_; simp (disch := omega) only [i64w]; omega)); conv => whnf)
          | ((with_reducible refine condm_pos ?_ ?_); (· assumption); conv => whnf)
          | ((with_reducible refine condm_neg ?_ ?_); (· assumption); conv => whnf)
          | ((with_reducible refine forceL_fv (by assumption) ?_); conv => whnf)
          | ((with_reducible refine forceL_rfv (by assumption) ?_); conv => whnf)
          | ((with_reducible refine forceNm_of ?_); conv => whnf)
          | ((with_reducible refine needm_of (fv_lenL (by assumption) (by assumption)) ?_); conv => whnf)
          | ((with_reducible refine optm_var (fv_strL (by assumption) (by assumption)) (fun s hs => ?_)); conv => whnf)
          | ((with_reducible refine forceA_of ?_); conv => whnf)
          | ((with_reducible refine forceL_pl (by assumption) ?_); conv => whnf)
          | ((with_reducible refine forceL_rpl (by assumption) ?_); conv => whnf)
          | fail)
        refine ⟨n - (i + 1), by omega, Into.weak [0, 1] _ _ ⟨i + 1, by omega, rfl, fun j hj x2 hx2 => ?_, rfl, rfl⟩ ⟨rfl, rfl, rfl, congrArg (fun z => some (V.a (.int .i64 z))) e4, trivial⟩ ⟨ren_pl hp _ _ _, ren_pl hop _ _ _, trivial⟩ ?_⟩
        · by_cases e : j = i
          · subst e
            rw [hx] at hx2
            injection hx2 with hx2
            subst hx2
            exact hb.symm
          · exact hno j (by omega) x2 hx2
        · simp [nodupb, baseb, Ob.okb, frmOk, V.okb, A.okb, hp.2, hop.2] <;> decide
    · conv => whnf
      exact keepOf (v₀ := .a (.int .i64 (-1))) [.cells cs 61 mk, .cells ob 5 false] [0, 1] rfl ⟨ren_pl hp _ _ _, ren_pl hop _ _ _, trivial⟩ (by simp [nodupb, baseb, Ob.okb, frmOk, V.okb, A.okb, hp.2, hop.2] <;> decide) (hK1 (fun j hj => hno j (by have := of_decide_eq_false h; omega)))
set_option maxHeartbeats 1000000 in
theorem delete26 (o : UInt8) (ob : List A) (hob : ob = [.int .u8 (o.toNat : Int)]) (L y : List Fl) (cs : List A) (cap : Nat) (mk : Bool) (hcs : cs = fls (L ++ y)) (hcap : cap = L.length + y.length) (hL : L.length ≤ 1024) {K : V → Hp → Prop}
    (hK : ∀ y' cs', cs' = fls (L.filter (fun x => !hit o x) ++ y') → cap = (L.filter (fun x => !hit o x)).length + y'.length → K (.a (.slc 0 0 (L.filter (fun x => !hit o x)).length cap)) [.cells cs' 61 mk, .cells ob 5 false]) :
    Go.Eng.Fn Try.prog ro 26 [.a (.slc 0 0 L.length cap), .a (.clo 27 [(1, 0)])] [.cells cs 61 mk, .cells ob 5 false] K := by
  have hop : Pl ob := by rw [hob]; exact ⟨fun _ => rfl, fun _ => rfl⟩
  have hp := Pl.fls hcs
  have hcl : cs.length = (L.length + y.length) * 3 := by rw [hcs, fls_length, List.length_append]
  refine Go.Eng.Fn.weak ?_
  refine Go.Eng.Fn.of 2 (gOf []) rfl Try.func26 rfl (Nat.le_of_ble_eq_true rfl) ?_
  conv => whnf
  refine Go.Eng.Fn.frame [0, 1] (by rfl) (by exact ⟨ren_pl hp _ _ _, ren_pl hop _ _ _, trivial⟩) (by simp [nodupb, V.okb, A.okb, Ob.okb, hp.2, hop.2] <;> decide) (index35 o ob hob L y cs cap mk hcs hL (fun hno => ?_) (fun i x hx hh hno => ?_))
  · have hfe : L.filter (fun x => !hit o x) = L := by
      rw [List.filter_eq_self]
      intro x hx
      obtain ⟨j, hj, rfl⟩ := List.mem_iff_getElem.1 hx
      rw [hno j hj _ (List.getElem?_eq_getElem hj)]
      rfl
    rw [hfe] at hK
    have hk := hK y cs hcs hcap
    generalize L.length = n at *
    conv => whnf
    repeat' (first
      | ((with_reducible refine regx_of ?_ ?_); (· decide +kernel); conv => whnf)
      | ((with_reducible refine growx_pre ?_ ?_); (· exact ⟨_, rfl⟩); conv => whnf)
      | ((with_reducible refine needm_of ?_ ?_); (· first | assumption | exact decide_eq_true (by omega) | exact mkOK_of (by decide) | decide +kernel | (refine decide_eq_true ?_; simp (disch := omega) only [i64w]; omega)); conv => whnf)
      | ((with_reducible refine condm_pos ?_ ?_); (· assumption); conv => whnf)
      | ((with_reducible refine condm_neg ?_ ?_); (· assumption); conv => whnf)
      | ((with_reducible refine forceL_fv (by assumption) ?_); conv => whnf)
      | ((with_reducible refine forceL_rfv (by assumption) ?_); conv => whnf)
      | ((with_reducible refine forceNm_of ?_); conv => whnf)
      | ((with_reducible refine needm_of (fv_lenL (by assumption) (by assumption)) ?_); conv => whnf)
      | ((with_reducible refine optm_var (fv_strL (by assumption) (by assumption)) (fun s hs => ?_)); conv => whnf)
      | ((with_reducible refine forceA_of ?_); conv => whnf)
      | ((with_reducible refine forceL_pl (by assumption) ?_); conv => whnf)
      | ((with_reducible refine forceL_rpl (by assumption) ?_); conv => whnf)
      | fail)
    exact keepOf (v₀ := .a (.slc 0 0 n cap)) [.cells cs 61 mk, .cells ob 5 false] [0, 1] rfl ⟨ren_pl hp _ _ _, ren_pl hop _ _ _, trivial⟩ (by simp [nodupb, baseb, Ob.okb, frmOk, V.okb, A.okb, hp.2, hop.2] <;> decide) hk
  · have hin : i < L.length := (List.getElem?_eq_some_iff.1 hx).1
    have e4 : IntKind.i64.wrap (↑i + 1) = ((i + 1 : Nat) : Int) := by rw [i64w (by omega) (by omega)]; rfl
    have c1 : (((i : Nat) : Int) == -1) = false := beq_eq_false_iff_ne.2 (by omega)
    generalize hn : L.length = n at *
    conv => whnf
    repeat' (first
      | rw [e4]
      | ((with_reducible refine regx_of ?_ ?_); (· decide +kernel); conv => whnf)
      | ((with_reducible refine growx_pre ?_ ?_); (· exact ⟨_, rfl⟩); conv => whnf)
      | ((with_reducible refine needm_of ?_ ?_); (· first | assumption | exact decide_eq_true (by omega) | exact mkOK_of (by decide) | decide +kernel | (refine decide_eq_true ?_; simp (disch := omega) only [i64w]; omega)); conv => whnf)
      | ((with_reducible refine condm_pos ?_ ?_); (· assumption); conv => whnf)
      | ((with_reducible refine condm_neg ?_ ?_); (· assumption); conv => whnf)
      | ((with_reducible refine forceL_fv (by assumption) ?_); conv => whnf)
      | ((with_reducible refine forceL_rfv (by assumption) ?_); conv => whnf)
      | ((with_reducible refine forceNm_of ?_); conv => whnf)
      | ((with_reducible refine needm_of (fv_lenL (by assumption) (by assumption)) ?_); conv => whnf)
      | ((with_reducible refine optm_var (fv_strL (by assumption) (by assumption)) (fun s hs => ?_)); conv => whnf)
      | ((with_reducible refine forceA_of ?_); conv => whnf)
      | ((with_reducible refine forceL_pl (by assumption) ?_); conv => whnf)
      | ((with_reducible refine forceL_rpl (by assumption) ?_); conv => whnf)
      | fail)
    obtain ⟨z3, hz3⟩ : ∃ z : List A, z = [.int .u8 0, .int .u8 0, .str { data := #[] }] := ⟨_, rfl⟩
    have hzp : Pl z3 := by rw [hz3]; exact ⟨fun _ => rfl, fun _ => rfl⟩
    have hzl : z3.length = 3 := by rw [hz3]; rfl
    have hT : (L.take i).filter (fun x => !hit o x) = L.take i := by
      rw [List.filter_eq_self]
      intro x hx
      obtain ⟨j, hj, rfl⟩ := List.mem_iff_getElem.1 hx
      rw [List.length_take] at hj
      rw [hno j (by omega) _ (by rw [List.getElem_take]; exact List.getElem?_eq_getElem (by omega))]
      rfl
    refine loopx_of (fun m F H => ∃ (j : Nat) (Kp G : List Fl) (cs : List A), j ≤ n ∧ m = n - j ∧ Kp = (L.take j).filter (fun x => !hit o x) ∧ 0 < G.length ∧ Kp.length + G.length = j ∧ cs = fls (Kp ++ (G ++ (L.drop j ++ y))) ∧ F = [(0, .a (.slc 0 0 n cap)), (1, .a (.clo 27 [(1, 0)])), (5, .a (.int .i64 Kp.length)), (6, .a (.int .i64 j))] ∧ H = [.cells cs 61 mk, .cells ob 5 false]) (n - (i + 1)) ?_ ?_
    · refine Into.weak [0, 1] _ _ ⟨i + 1, L.take i, [x], cs, by omega, rfl, by rw [take_filter hx, hT, hh]; simp, by simp, by rw [List.length_take, List.length_singleton]; omega, ?_, rfl, rfl⟩ ⟨rfl, rfl, ?_, rfl, trivial⟩ ⟨ren_pl hp _ _ _, ren_pl hop _ _ _, trivial⟩ ?_
      · rw [hcs]
        congr 1
        rw [List.singleton_append, ← List.cons_append, ← drop_at hx, ← List.append_assoc, List.take_append_drop]
      · rw [List.length_take, hn, Nat.min_eq_left (by omega)]
        rfl
      · simp [nodupb, baseb, Ob.okb, frmOk, V.okb, A.okb, hp.2, hop.2] <;> decide
    · clear hcs hp hcl hx hh hno e4 c1 hT hin
      rintro m F H ⟨j, Kp, G, cs, hj, rfl, hKp, hG, hlen, hcs, rfl, rfl⟩
      have hp := Pl.fls hcs
      have hdl : (L.drop j).length = n - j := by rw [List.length_drop, hn]
      have hcl : cs.length = (n + y.length) * 3 := by rw [hcs, fls_length]; simp only [List.length_append, hdl]; omega
      generalize hk : Kp.length = k at *
      conv => whnf
      refine condm_of (fun h => ?_) (fun h => ?_)
      · have hjn : j < n := by have := of_decide_eq_true h; omega
        have e5 : IntKind.i64.wrap (↑j + 1) = ((j + 1 : Nat) : Int) := by rw [i64w (by omega) (by omega)]; rfl
        have e6 : IntKind.i64.wrap (↑k + 1) = ((k + 1 : Nat) : Int) := by rw [i64w (by omega) (by omega)]; rfl
        have hx : L[j]? = some (L[j]'(by omega)) := List.getElem?_eq_getElem (by omega)
        generalize (L[j]'(by omega)) = x at *
        have hd := drop_at hx
        have hx' : (Kp ++ (G ++ (L.drop j ++ y)))[j]? = some x := by
          rw [← List.append_assoc, List.getElem?_append_right (by rw [List.length_append]; omega), List.length_append, show j - (Kp.length + G.length) = 0 by omega, hd]
          rfl
        have hr := fls_at hcs hx' (o := 0 + (j : Int).toNat * Try.prog.types[61].size) (m := 0 + (j : Int).toNat * Try.prog.types[61].size + Try.prog.types[61].size) (by rw [s61, Int.toNat_natCast]; omega) (by rw [s61, Int.toNat_natCast]; omega)
        conv => whnf
        repeat' (first
          | ((with_reducible refine regx_of ?_ ?_); (· decide +kernel); conv => whnf)
          | ((with_reducible refine growx_pre ?_ ?_); (· exact ⟨_, rfl⟩); conv => whnf)
          | ((with_reducible refine needm_of ?_ ?_); (· first | assumption | exact decide_eq_true (by omega) | exact mkOK_of (by decide) | decide +kernel | (refine decide_eq_true ?_; simp (disch := omega) only [i64w]; omega)); conv => whnf)
          | ((with_reducible refine condm_pos ?_ ?_); (· assumption); conv => whnf)
          | ((with_reducible refine condm_neg ?_ ?_); (· assumption); conv => whnf)
          | ((with_reducible refine forceL_fv (by assumption) ?_); conv => whnf)
          | ((with_reducible refine forceL_rfv (by assumption) ?_); conv => whnf)
          | ((with_reducible refine forceNm_of ?_); conv => whnf)
          | ((with_reducible refine needm_of (fv_lenL (by assumption) (by assumption)) ?_); conv => whnf)
          | ((with_reducible refine optm_var (fv_strL (by assumption) (by assumption)) (fun s hs => ?_)); conv => whnf)
          | ((with_reducible refine forceA_of ?_); conv => whnf)
          | ((with_reducible refine forceL_pl (by assumption) ?_); conv => whnf)
          | ((with_reducible refine forceL_rpl (by assumption) ?_); conv => whnf)
          | fail)
        refine needm_of (decide_eq_true (by rw [hcl, s61, Int.toNat_natCast]; omega)) ?_
        conv => whnf
        refine forceL_var hr (fun xr hxr => ?_)
        have hxp : Pl xr := by rw [hxr]; exact ⟨fun _ => rfl, fun _ => rfl⟩
        have hxl : xr.length = 3 := by rw [hxr]; rfl
        conv => whnf
        repeat' (first
          | rw [← hz3]
          | ((with_reducible refine regx_of ?_ ?_); (· decide +kernel); conv => whnf)
          | ((with_reducible refine growx_pre ?_ ?_); (· exact ⟨_, rfl⟩); conv => whnf)
          | ((with_reducible refine needm_of ?_ ?_); (· first | assumption | exact decide_eq_true (by omega) | exact mkOK_of (by decide) | decide +kernel | (refine decide_eq_true ?_; simp (disch := omega) only [i64w]; omega)); conv => whnf)
          | ((with_reducible refine condm_pos ?_ ?_); (· assumption); conv => whnf)
          | ((with_reducible refine condm_neg ?_ ?_); (· assumption); conv => whnf)
          | ((with_reducible refine forceL_fv (by assumption) ?_); conv => whnf)
          | ((with_reducible refine forceL_rfv (by assumption) ?_); conv => whnf)
          | ((with_reducible refine forceNm_of ?_); conv => whnf)
          | ((with_reducible refine needm_of (fv_lenL (by assumption) (by assumption)) ?_); conv => whnf)
          | ((with_reducible refine optm_var (fv_strL (by assumption) (by assumption)) (fun s hs => ?_)); conv => whnf)
          | ((with_reducible refine forceA_of ?_); conv => whnf)
          | ((with_reducible refine forceL_pl (by assumption) ?_); conv => whnf)
          | ((with_reducible refine forceL_rpl (by assumption) ?_); conv => whnf)
          | ((with_reducible refine needm_of ?_ ?_); (· first | (rw [hxl, hzl]; rfl) | (rw [hxl]; rfl)); conv => whnf)
          | ((with_reducible refine forceL_to (whole_of ?_) ?_); (· rw [hxl]; rfl); conv => whnf)
          | ((with_reducible refine forceL_to (store_all ?_) ?_); (· rw [hxl, hzl]); conv => whnf)
          | fail)
        refine Go.Eng.Fn.frame [1] (by simp [V.ren, hxp.1, A.ren, dsOf]) (by exact ⟨ren_pl hop _ _ _, trivial⟩) (by simp [nodupb, V.okb, A.okb, Ob.okb, hxp.2, hop.2]) (clo27 o x xr ob hxr hob (fun b hb => ?_))
        conv => whnf
        repeat' (first
          | rw [← hz3]
          | ((with_reducible refine regx_of ?_ ?_); (· decide +kernel); conv => whnf)
          | ((with_reducible refine growx_pre ?_ ?_); (· exact ⟨_, rfl⟩); conv => whnf)
          | ((with_reducible refine needm_of ?_ ?_); (· first | assumption | exact decide_eq_true (by omega) | exact mkOK_of (by decide) | decide +kernel | (refine decide_eq_true ?_; simp (disch := omega) only [i64w]; omega)); conv => whnf)
          | ((with_reducible refine condm_pos ?_ ?_); (· assumption); conv => whnf)
          | ((with_reducible refine condm_neg ?_ ?_); (· assumption); conv => whnf)
          | ((with_reducible refine forceL_fv (by assumption) ?_); conv => whnf)
          | ((with_reducible refine forceL_rfv (by assumption) ?_); conv => whnf)
          | ((with_reducible refine forceNm_of ?_); conv => whnf)
          | ((with_reducible refine needm_of (fv_lenL (by assumption) (by assumption)) ?_); conv => whnf)
          | ((with_reducible refine optm_var (fv_strL (by assumption) (by assumption)) (fun s hs => ?_)); conv => whnf)
          | ((with_reducible refine forceA_of ?_); conv => whnf)
          | ((with_reducible refine forceL_pl (by assumption) ?_); conv => whnf)
          | ((with_reducible refine forceL_rpl (by assumption) ?_); conv => whnf)
          | ((with_reducible refine needm_of ?_ ?_); (· first | (rw [hxl, hzl]; rfl) | (rw [hxl]; rfl)); conv => whnf)
          | ((with_reducible refine forceL_to (whole_of ?_) ?_); (· rw [hxl]; rfl); conv => whnf)
          | ((with_reducible refine forceL_to (store_all ?_) ?_); (· rw [hxl, hzl]); conv => whnf)
          | fail)
        cases b with
        | true =>
          conv => whnf
          repeat' (first
            | rw [← hz3]
            | ((with_reducible refine regx_of ?_ ?_); (· decide +kernel); conv => whnf)
            | ((with_reducible refine growx_pre ?_ ?_); (· exact ⟨_, rfl⟩); conv => whnf)
            | ((with_reducible refine needm_of ?_ ?_); (· first | assumption | exact decide_eq_true (by omega) | exact mkOK_of (by decide) | decide +kernel | (refine decide_eq_true ?_; simp (disch := omega) only [i64w]; omega)); conv => whnf)
            | ((with_reducible refine condm_pos ?_ ?_); (· assumption); conv => whnf)
            | ((with_reducible refine condm_neg ?_ ?_); (· assumption); conv => whnf)
            | ((with_reducible refine forceL_fv (by assumption) ?_); conv => whnf)
            | ((with_reducible refine forceL_rfv (by assumption) ?_); conv => whnf)
            | ((with_reducible refine forceNm_of ?_); conv => whnf)
            | ((with_reducible refine needm_of (fv_lenL (by assumption) (by assumption)) ?_); conv => whnf)
            | ((with_reducible refine optm_var (fv_strL (by assumption) (by assumption)) (fun s hs => ?_)); conv => whnf)
            | ((with_reducible refine forceA_of ?_); conv => whnf)
            | ((with_reducible refine forceL_pl (by assumption) ?_); conv => whnf)
            | ((with_reducible refine forceL_rpl (by assumption) ?_); conv => whnf)
            | ((with_reducible refine needm_of ?_ ?_); (· first | (rw [hxl, hzl]; rfl) | (rw [hxl]; rfl)); conv => whnf)
            | ((with_reducible refine forceL_to (whole_of ?_) ?_); (· rw [hxl]; rfl); conv => whnf)
            | ((with_reducible refine forceL_to (store_all ?_) ?_); (· rw [hxl, hzl]); conv => whnf)
            | fail)
          refine ⟨n - (j + 1), by omega, Into.weak [0, 1] _ _ ⟨j + 1, Kp, G ++ [x], cs, by omega, rfl, by rw [take_filter hx, ← hb, hKp]; simp, by simp, by rw [List.length_append, List.length_singleton]; omega, by rw [hcs, hd]; simp, rfl, rfl⟩ ⟨rfl, rfl, by rw [hk]; rfl, congrArg (fun z => some (V.a (.int .i64 z))) e5, trivial⟩ ⟨ren_pl hp _ _ _, ren_pl hop _ _ _, trivial⟩ ?_⟩
          simp [nodupb, baseb, Ob.okb, frmOk, V.okb, A.okb, hp.2, hop.2] <;> decide
        | false =>
          conv => whnf
          repeat' (first
            | rw [← hz3]
            | ((with_reducible refine regx_of ?_ ?_); (· decide +kernel); conv => whnf)
            | ((with_reducible refine growx_pre ?_ ?_); (· exact ⟨_, rfl⟩); conv => whnf)
            | ((with_reducible refine needm_of ?_ ?_); (· first | assumption | exact decide_eq_true (by omega) | exact mkOK_of (by decide) | decide +kernel | (refine decide_eq_true ?_; simp (disch := omega) only [i64w]; omega)); conv => whnf)
            | ((with_reducible refine condm_pos ?_ ?_); (· assumption); conv => whnf)
            | ((with_reducible refine condm_neg ?_ ?_); (· assumption); conv => whnf)
            | ((with_reducible refine forceL_fv (by assumption) ?_); conv => whnf)
            | ((with_reducible refine forceL_rfv (by assumption) ?_); conv => whnf)
            | ((with_reducible refine forceNm_of ?_); conv => whnf)
            | ((with_reducible refine needm_of (fv_lenL (by assumption) (by assumption)) ?_); conv => whnf)
            | ((with_reducible refine optm_var (fv_strL (by assumption) (by assumption)) (fun s hs => ?_)); conv => whnf)
            | ((with_reducible refine forceA_of ?_); conv => whnf)
            | ((with_reducible refine forceL_pl (by assumption) ?_); conv => whnf)
            | ((with_reducible refine forceL_rpl (by assumption) ?_); conv => whnf)
            | ((with_reducible refine needm_of ?_ ?_); (· first | (rw [hxl, hzl]; rfl) | (rw [hxl]; rfl)); conv => whnf)
            | ((with_reducible refine forceL_to (whole_of ?_) ?_); (· rw [hxl]; rfl); conv => whnf)
            | ((with_reducible refine forceL_to (store_all ?_) ?_); (· rw [hxl, hzl]); conv => whnf)
            | fail)
          refine needm_of (by rw [hcl, hxl, s61, Int.toNat_natCast]; simp; omega) ?_
          conv => whnf
          refine forceL_var (l' := fls ((Kp ++ [x]) ++ ((G.tail ++ [x]) ++ (L.drop (j + 1) ++ y)))) ?_ (fun cs2 hcs2 => ?_)
          · rw [hxr, fls_put hcs (i := k) (by simp only [List.length_append, hk]; omega) x (by rw [s61, Int.toNat_natCast, Nat.zero_add])]
            congr 1
            rw [List.set_append_right _ _ (by omega), hk, Nat.sub_self, hd]
            cases G with
            | nil => simp at hG
            | cons g G => simp
          have hp2 := Pl.fls hcs2
          conv => whnf
          repeat' (first
            | rw [← hz3]
            | ((with_reducible refine regx_of ?_ ?_); (· decide +kernel); conv => whnf)
            | ((with_reducible refine growx_pre ?_ ?_); (· exact ⟨_, rfl⟩); conv => whnf)
            | ((with_reducible refine needm_of ?_ ?_); (· first | assumption | exact decide_eq_true (by omega) | exact mkOK_of (by decide) | decide +kernel | (refine decide_eq_true ?_; simp (disch := omega) only [i64w]; omega)); conv => whnf)
            | ((with_reducible refine condm_pos ?_ ?_); (· assumption); conv => whnf)
            | ((with_reducible refine condm_neg ?_ ?_); (· assumption); conv => whnf)
            | ((with_reducible refine forceL_fv (by assumption) ?_); conv => whnf)
            | ((with_reducible refine forceL_rfv (by assumption) ?_); conv => whnf)
            | ((with_reducible refine forceNm_of ?_); conv => whnf)
            | ((with_reducible refine needm_of (fv_lenL (by assumption) (by assumption)) ?_); conv => whnf)
            | ((with_reducible refine optm_var (fv_strL (by assumption) (by assumption)) (fun s hs => ?_)); conv => whnf)
            | ((with_reducible refine forceA_of ?_); conv => whnf)
            | ((with_reducible refine forceL_pl (by assumption) ?_); conv => whnf)
            | ((with_reducible refine forceL_rpl (by assumption) ?_); conv => whnf)
            | ((with_reducible refine needm_of ?_ ?_); (· first | (rw [hxl, hzl]; rfl) | (rw [hxl]; rfl)); conv => whnf)
            | ((with_reducible refine forceL_to (whole_of ?_) ?_); (· rw [hxl]; rfl); conv => whnf)
            | ((with_reducible refine forceL_to (store_all ?_) ?_); (· rw [hxl, hzl]); conv => whnf)
            | fail)
          refine ⟨n - (j + 1), by omega, Into.weak [0, 1] _ _ ⟨j + 1, Kp ++ [x], G.tail ++ [x], cs2, by omega, rfl, by rw [take_filter hx, ← hb, hKp]; simp, by simp, by rw [List.length_append, List.length_append, List.length_singleton, List.length_tail]; omega, hcs2, rfl, rfl⟩ ⟨rfl, rfl, by rw [List.length_append, List.length_singleton, hk]; exact congrArg (fun z => some (V.a (.int .i64 z))) e6, congrArg (fun z => some (V.a (.int .i64 z))) e5, trivial⟩ ⟨ren_pl hp2 _ _ _, ren_pl hop _ _ _, trivial⟩ ?_⟩
          simp [nodupb, baseb, Ob.okb, frmOk, V.okb, A.okb, hp2.2, hop.2] <;> decide
      · have hjn : j = n := by have := of_decide_eq_false h; omega
        have hKe : Kp = L.filter (fun x => !hit o x) := by rw [hKp, hjn, List.take_of_length_le (by omega)]
        rw [hjn, List.drop_of_length_le (by omega), List.nil_append] at hcs
        obtain ⟨m, hm⟩ : ∃ m, n - k = m + 1 := ⟨n - k - 1, by omega⟩
        have hC : (((k : Nat) : Int)).toNat = k := Int.toNat_natCast _
        have e8 : (if cap = k then 0 else 0 + k * Try.prog.types[61].size) = k * 3 := by rw [if_neg (by omega), s61, Nat.zero_add]
        have hrz : repl z3 ((m + 1) * Try.prog.types[61].size) = fls (List.replicate (m + 1) z0) := by rw [hz3, s61]; exact fls_zeros (m + 1)
        conv => whnf
        repeat' (first
          | rw [← hz3]
          | ((with_reducible refine regx_of ?_ ?_); (· decide +kernel); conv => whnf)
          | ((with_reducible refine growx_pre ?_ ?_); (· exact ⟨_, rfl⟩); conv => whnf)
          | ((with_reducible refine needm_of ?_ ?_); (· first | assumption | exact decide_eq_true (by omega) | exact mkOK_of (by decide) | decide +kernel | (refine decide_eq_true ?_; simp (disch := omega) only [i64w]; omega)); conv => whnf)
          | ((with_reducible refine condm_pos ?_ ?_); (· assumption); conv => whnf)
          | ((with_reducible refine condm_neg ?_ ?_); (· assumption); conv => whnf)
          | ((with_reducible refine forceL_fv (by assumption) ?_); conv => whnf)
          | ((with_reducible refine forceL_rfv (by assumption) ?_); conv => whnf)
          | ((with_reducible refine forceNm_of ?_); conv => whnf)
          | ((with_reducible refine needm_of (fv_lenL (by assumption) (by assumption)) ?_); conv => whnf)
          | ((with_reducible refine optm_var (fv_strL (by assumption) (by assumption)) (fun s hs => ?_)); conv => whnf)
          | ((with_reducible refine forceA_of ?_); conv => whnf)
          | ((with_reducible refine forceL_pl (by assumption) ?_); conv => whnf)
          | ((with_reducible refine forceL_rpl (by assumption) ?_); conv => whnf)
          | ((with_reducible refine needm_of ?_ ?_); (· first | (rw [hxl, hzl]; rfl) | (rw [hxl]; rfl)); conv => whnf)
          | ((with_reducible refine forceL_to (whole_of ?_) ?_); (· rw [hxl]; rfl); conv => whnf)
          | ((with_reducible refine forceL_to (store_all ?_) ?_); (· rw [hxl, hzl]); conv => whnf)
          | fail)
        rw [hC, hm, e8]
        conv => whnf
        repeat' (first
          | rw [hrz]
          | rw [← hz3]
          | ((with_reducible refine regx_of ?_ ?_); (· decide +kernel); conv => whnf)
          | ((with_reducible refine growx_pre ?_ ?_); (· exact ⟨_, rfl⟩); conv => whnf)
          | ((with_reducible refine needm_of ?_ ?_); (· first | assumption | exact decide_eq_true (by omega) | exact mkOK_of (by decide) | decide +kernel | (refine decide_eq_true ?_; simp (disch := omega) only [i64w]; omega)); conv => whnf)
          | ((with_reducible refine condm_pos ?_ ?_); (· assumption); conv => whnf)
          | ((with_reducible refine condm_neg ?_ ?_); (· assumption); conv => whnf)
          | ((with_reducible refine forceL_fv (by assumption) ?_); conv => whnf)
          | ((with_reducible refine forceL_rfv (by assumption) ?_); conv => whnf)
          | ((with_reducible refine forceNm_of ?_); conv => whnf)
          | ((with_reducible refine needm_of (fv_lenL (by assumption) (by assumption)) ?_); conv => whnf)
          | ((with_reducible refine optm_var (fv_strL (by assumption) (by assumption)) (fun s hs => ?_)); conv => whnf)
          | ((with_reducible refine forceA_of ?_); conv => whnf)
          | ((with_reducible refine forceL_pl (by assumption) ?_); conv => whnf)
          | ((with_reducible refine forceL_rpl (by assumption) ?_); conv => whnf)
          | ((with_reducible refine needm_of ?_ ?_); (· first | (rw [hxl, hzl]; rfl) | (rw [hxl]; rfl)); conv => whnf)
          | ((with_reducible refine forceL_to (whole_of ?_) ?_); (· rw [hxl]; rfl); conv => whnf)
          | ((with_reducible refine forceL_to (store_all ?_) ?_); (· rw [hxl, hzl]); conv => whnf)
          | fail)
        refine needm_of (by rw [hzl, hcl, s61]; simp; omega) ?_
        conv => whnf
        repeat' (first
          | rw [hrz]
          | rw [← hz3]
          | ((with_reducible refine regx_of ?_ ?_); (· decide +kernel); conv => whnf)
          | ((with_reducible refine growx_pre ?_ ?_); (· exact ⟨_, rfl⟩); conv => whnf)
          | ((with_reducible refine needm_of ?_ ?_); (· first | assumption | exact decide_eq_true (by omega) | exact mkOK_of (by decide) | decide +kernel | (refine decide_eq_true ?_; simp (disch := omega) only [i64w]; omega)); conv => whnf)
          | ((with_reducible refine condm_pos ?_ ?_); (· assumption); conv => whnf)
          | ((with_reducible refine condm_neg ?_ ?_); (· assumption); conv => whnf)
          | ((with_reducible refine forceL_fv (by assumption) ?_); conv => whnf)
          | ((with_reducible refine forceL_rfv (by assumption) ?_); conv => whnf)
          | ((with_reducible refine forceNm_of ?_); conv => whnf)
          | ((with_reducible refine needm_of (fv_lenL (by assumption) (by assumption)) ?_); conv => whnf)
          | ((with_reducible refine optm_var (fv_strL (by assumption) (by assumption)) (fun s hs => ?_)); conv => whnf)
          | ((with_reducible refine forceA_of ?_); conv => whnf)
          | ((with_reducible refine forceL_pl (by assumption) ?_); conv => whnf)
          | ((with_reducible refine forceL_rpl (by assumption) ?_); conv => whnf)
          | ((with_reducible refine needm_of ?_ ?_); (· first | (rw [hxl, hzl]; rfl) | (rw [hxl]; rfl)); conv => whnf)
          | ((with_reducible refine forceL_to (whole_of ?_) ?_); (· rw [hxl]; rfl); conv => whnf)
          | ((with_reducible refine forceL_to (store_all ?_) ?_); (· rw [hxl, hzl]); conv => whnf)
          | fail)
        refine forceL_var (fls_over hcs rfl (by simp only [List.length_append, List.length_replicate]; omega)) (fun cs2 hcs2 => ?_)
        have hrow : (Kp ++ (G ++ y)).take k ++ List.replicate (m + 1) z0 ++ (Kp ++ (G ++ y)).drop (k + (List.replicate (m + 1) z0).length) = Kp ++ (List.replicate (m + 1) z0 ++ y) := by
          rw [List.take_left' hk, List.append_assoc]
          congr 2
          rw [← List.append_assoc]
          exact List.drop_left' (by rw [List.length_append, List.length_replicate, hk]; omega)
        rw [hrow] at hcs2
        have hp2 := Pl.fls hcs2
        conv => whnf
        repeat' (first
          | rw [← hz3]
          | ((with_reducible refine regx_of ?_ ?_); (· decide +kernel); conv => whnf)
          | ((with_reducible refine growx_pre ?_ ?_); (· exact ⟨_, rfl⟩); conv => whnf)
          | ((with_reducible refine needm_of ?_ ?_); (· first | assumption | exact decide_eq_true (by omega) | exact mkOK_of (by decide) | decide +kernel | (refine decide_eq_true ?_; simp (disch := omega) only [i64w]; omega)); conv => whnf)
          | ((with_reducible refine condm_pos ?_ ?_); (· assumption); conv => whnf)
          | ((with_reducible refine condm_neg ?_ ?_); (· assumption); conv => whnf)
          | ((with_reducible refine forceL_fv (by assumption) ?_); conv => whnf)
          | ((with_reducible refine forceL_rfv (by assumption) ?_); conv => whnf)
          | ((with_reducible refine forceNm_of ?_); conv => whnf)
          | ((with_reducible refine needm_of (fv_lenL (by assumption) (by assumption)) ?_); conv => whnf)
          | ((with_reducible refine optm_var (fv_strL (by assumption) (by assumption)) (fun s hs => ?_)); conv => whnf)
          | ((with_reducible refine forceA_of ?_); conv => whnf)
          | ((with_reducible refine forceL_pl (by assumption) ?_); conv => whnf)
          | ((with_reducible refine forceL_rpl (by assumption) ?_); conv => whnf)
          | ((with_reducible refine needm_of ?_ ?_); (· first | (rw [hxl, hzl]; rfl) | (rw [hxl]; rfl)); conv => whnf)
          | ((with_reducible refine forceL_to (whole_of ?_) ?_); (· rw [hxl]; rfl); conv => whnf)
          | ((with_reducible refine forceL_to (store_all ?_) ?_); (· rw [hxl, hzl]); conv => whnf)
          | fail)
        have e9 : (if cap = 0 then 0 else 0 + 0 * Try.prog.types[61].size) = 0 := by split <;> simp
        rw [e9, hC]
        have hkk := hK (List.replicate (m + 1) z0 ++ y) cs2 (by rw [← hKe]; exact hcs2) (by rw [← hKe, hk, List.length_append, List.length_replicate]; omega)
        rw [← hKe, hk] at hkk
        exact keepOf (v₀ := .a (.slc 0 0 k cap)) [.cells cs2 61 mk, .cells ob 5 false] [0, 1] rfl ⟨ren_pl hp2 _ _ _, ren_pl hop _ _ _, trivial⟩ (by simp [nodupb, baseb, Ob.okb, frmOk, V.okb, A.okb, hp2.2, hop.2] <;> decide) hkk
end
end Go.Proofs.Ytkggpkgnkppceaa.LK
