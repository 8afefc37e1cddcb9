import Derived.Test.YtkggpkgnkppceaaLB
import Derived.Test.YtkggpkgnkppceaaLT
namespace Go.Proofs.Ytkggpkgnkppceaa.LK
open Go.Eng
set_option maxRecDepth 100000
section
variable {ro : Addr → A → Prop}
set_option maxHeartbeats 400000 in
theorem len14n (room : Int) {K : V → Hp → Prop} (hK : K (.a (.int .i64 0)) [.cells [.int .i64 room, .nils] 57 false]) : Go.Eng.Fn Try.prog ro 14 [.a (.ptr 0 0)] [.cells [.int .i64 room, .nils] 57 false] K := by
  refine Go.Eng.Fn.weak ?_
  refine Go.Eng.Fn.of 1 (gOf []) rfl Try.func14 rfl (Nat.le_of_ble_eq_true rfl) ?_
  conv => whnf
  repeat' (first
    | ((with_reducible refine regx_of ?_ ?_); (· decide +kernel); conv => whnf)
    | ((with_reducible refine growx_pre ?_ ?_); (· exact ⟨_, rfl⟩); conv => whnf)
    | ((with_reducible refine needm_of ?_ ?_); (· first | assumption | exact decide_eq_true (by omega) | exact mkOK_of (by decide) | decide +kernel | (refine decide_eq_true ?_; simp (disch := omega) only [i64w]; omega)); conv => whnf)
    | ((with_reducible refine condm_pos ?_ ?_); (· assumption); conv => whnf)
    | ((with_reducible refine condm_neg ?_ ?_); (· assumption); conv => whnf)
    | ((with_reducible refine forceL_fv (by assumption) ?_); conv => whnf)
    | ((with_reducible refine forceL_rfv (by assumption) ?_); conv => whnf)
    | ((with_reducible refine forceNm_of ?_); conv => whnf)
    | ((with_reducible refine needm_of (fv_lenL (by assumption) (by assumption)) ?_); conv => whnf)
    | ((with_reducible refine optm_var (fv_strL (by assumption) (by assumption)) (fun s hs => ?_)); conv => whnf)
    | ((with_reducible refine forceA_of ?_); conv => whnf)
    | ((with_reducible refine forceL_pl (by assumption) ?_); conv => whnf)
    | ((with_reducible refine forceL_rpl (by assumption) ?_); conv => whnf)
    | fail)
  exact keepOf (v₀ := .a (.int .i64 0)) [.cells [.int .i64 room, .nils] 57 false] [0] rfl ⟨rfl, trivial⟩ rfl hK
set_option maxHeartbeats 400000 in
theorem len14 (room : Int) (len cap : Nat) {K : V → Hp → Prop} (cs : List A) (hp : Pl cs) (mk : Bool) (hK : K (.a (.int .i64 (len : Int))) [.cells [.int .i64 room, .slc 1 0 len cap] 57 false, .cells cs 61 mk]) :
    Go.Eng.Fn Try.prog ro 14 [.a (.ptr 0 0)] [.cells [.int .i64 room, .slc 1 0 len cap] 57 false, .cells cs 61 mk] K := by
  refine Go.Eng.Fn.weak ?_
  refine Go.Eng.Fn.of 2 (gOf []) rfl Try.func14 rfl (Nat.le_of_ble_eq_true rfl) ?_
  conv => whnf
  repeat' (first
    | ((with_reducible refine regx_of ?_ ?_); (· decide +kernel); conv => whnf)
    | ((with_reducible refine growx_pre ?_ ?_); (· exact ⟨_, rfl⟩); conv => whnf)
    | ((with_reducible refine needm_of ?_ ?_); (· first | assumption | exact decide_eq_true (by omega) | exact mkOK_of (by decide) | decide +kernel | (refine decide_eq_true ?_; simp (disch := omega) only [i64w]; omega)); conv => whnf)
    | ((with_reducible refine condm_pos ?_ ?_); (· assumption); conv => whnf)
    | ((with_reducible refine condm_neg ?_ ?_); (· assumption); conv => whnf)
    | ((with_reducible refine forceL_fv (by assumption) ?_); conv => whnf)
    | ((with_reducible refine forceL_rfv (by assumption) ?_); conv => whnf)
    | ((with_reducible refine forceNm_of ?_); conv => whnf)
    | ((with_reducible refine needm_of (fv_lenL (by assumption) (by assumption)) ?_); conv => whnf)
    | ((with_reducible refine optm_var (fv_strL (by assumption) (by assumption)) (fun s hs => ?_)); conv => whnf)
    | ((with_reducible refine forceA_of ?_); conv => whnf)
    | ((with_reducible refine forceL_pl (by assumption) ?_); conv => whnf)
    | ((with_reducible refine forceL_rpl (by assumption) ?_); conv => whnf)
    | fail)
  exact keepOf (v₀ := .a (.int .i64 (len : Int))) [.cells [.int .i64 room, .slc 1 0 len cap] 57 false, .cells cs 61 mk] [0, 1] rfl ⟨rfl, ren_pl hp _ _ _, trivial⟩ (by simp [nodupb, baseb, Ob.okb, frmOk, V.okb, A.okb, hp.2] <;> decide) hK
set_option maxHeartbeats 400000 in
theorem at25n (room i : Int) {K : V → Hp → Prop} (hK : K (.t [.g z0.row, .a (.int .i64 220)]) [.cells [.int .i64 room, .nils] 57 false]) : Go.Eng.Fn Try.prog ro 25 [.a (.ptr 0 0), .a (.int .i64 i)] [.cells [.int .i64 room, .nils] 57 false] K := by
  refine Go.Eng.Fn.weak ?_
  refine Go.Eng.Fn.of 1 (gOf []) rfl Try.func25 rfl (Nat.le_of_ble_eq_true rfl) ?_
  conv => whnf
  by_cases h1 : i < 0
  · have c1 : decide (i < 0) = true := decide_eq_true h1
    repeat' (first
      | ((with_reducible refine regx_of ?_ ?_); (· decide +kernel); conv => whnf)
      | ((with_reducible refine growx_pre ?_ ?_); (· exact ⟨_, rfl⟩); conv => whnf)
      | ((with_reducible refine needm_of ?_ ?_); (· first | assumption | exact decide_eq_true (by omega) | exact mkOK_of (by decide) | decide +kernel | (refine decide_eq_true ?_; simp (disch := omega) only [i64w]; omega)); conv => whnf)
      | ((with_reducible refine condm_pos ?_ ?_); (· assumption); conv => whnf)
      | ((with_reducible refine condm_neg ?_ ?_); (· assumption); conv => whnf)
      | ((with_reducible refine forceL_fv (by assumption) ?_); conv => whnf)
      | ((with_reducible refine forceL_rfv (by assumption) ?_); conv => whnf)
      | ((with_reducible refine forceNm_of ?_); conv => whnf)
      | ((with_reducible refine needm_of (fv_lenL (by assumption) (by assumption)) ?_); conv => whnf)
      | ((with_reducible refine optm_var (fv_strL (by assumption) (by assumption)) (fun s hs => ?_)); conv => whnf)
      | ((with_reducible refine forceA_of ?_); conv => whnf)
      | ((with_reducible refine forceL_pl (by assumption) ?_); conv => whnf)
      | ((with_reducible refine forceL_rpl (by assumption) ?_); conv => whnf)
      | fail)
    exact keepOf (v₀ := .t [.g z0.row, .a (.int .i64 220)]) [.cells [.int .i64 room, .nils] 57 false] [0] rfl ⟨rfl, trivial⟩ rfl hK
  · have c1 : decide (i < 0) = false := decide_eq_false h1
    have c2 : decide (i ≥ 0) = true := decide_eq_true (by omega)
    repeat' (first
      | ((with_reducible refine regx_of ?_ ?_); (· decide +kernel); conv => whnf)
      | ((with_reducible refine growx_pre ?_ ?_); (· exact ⟨_, rfl⟩); conv => whnf)
      | ((with_reducible refine needm_of ?_ ?_); (· first | assumption | exact decide_eq_true (by omega) | exact mkOK_of (by decide) | decide +kernel | (refine decide_eq_true ?_; simp (disch := omega) only [i64w]; omega)); conv => whnf)
      | ((with_reducible refine condm_pos ?_ ?_); (· assumption); conv => whnf)
      | ((with_reducible refine condm_neg ?_ ?_); (· assumption); conv => whnf)
      | ((with_reducible refine forceL_fv (by assumption) ?_); conv => whnf)
      | ((with_reducible refine forceL_rfv (by assumption) ?_); conv => whnf)
      | ((with_reducible refine forceNm_of ?_); conv => whnf)
      | ((with_reducible refine needm_of (fv_lenL (by assumption) (by assumption)) ?_); conv => whnf)
      | ((with_reducible refine optm_var (fv_strL (by assumption) (by assumption)) (fun s hs => ?_)); conv => whnf)
      | ((with_reducible refine forceA_of ?_); conv => whnf)
      | ((with_reducible refine forceL_pl (by assumption) ?_); conv => whnf)
      | ((with_reducible refine forceL_rpl (by assumption) ?_); conv => whnf)
      | fail)
    exact keepOf (v₀ := .t [.g z0.row, .a (.int .i64 220)]) [.cells [.int .i64 room, .nils] 57 false] [0] rfl ⟨rfl, trivial⟩ rfl hK
set_option maxHeartbeats 400000 in
theorem at25 (room i : Int) (len cap : Nat) (cs : List A) (L : List Fl) (hcs : cs = fls L) (hlen : len ≤ L.length) (mk : Bool) {K : V → Hp → Prop}
    (hK1 : ¬ (0 ≤ i ∧ i < len) → ∀ xr, xr = z0.row → K (.t [.g xr, .a (.int .i64 220)]) [.cells [.int .i64 room, .slc 1 0 len cap] 57 false, .cells cs 61 mk])
    (hK2 : ∀ x, L[i.toNat]? = some x → (0 ≤ i ∧ i < len) → ∀ xr, xr = x.row → K (.t [.g xr, .a (.int .i64 0)]) [.cells [.int .i64 room, .slc 1 0 len cap] 57 false, .cells cs 61 mk]) :
    Go.Eng.Fn Try.prog ro 25 [.a (.ptr 0 0), .a (.int .i64 i)] [.cells [.int .i64 room, .slc 1 0 len cap] 57 false, .cells cs 61 mk] K := by
  have hp := Pl.fls hcs
  refine Go.Eng.Fn.weak ?_
  refine Go.Eng.Fn.of 2 (gOf []) rfl Try.func25 rfl (Nat.le_of_ble_eq_true rfl) ?_
  conv => whnf
  repeat' (first
    | ((with_reducible refine regx_of ?_ ?_); (· decide +kernel); conv => whnf)
    | ((with_reducible refine growx_pre ?_ ?_); (· exact ⟨_, rfl⟩); conv => whnf)
    | ((with_reducible refine needm_of ?_ ?_); (· first | assumption | exact decide_eq_true (by omega) | exact mkOK_of (by decide) | decide +kernel | (refine decide_eq_true ?_; simp (disch := omega) only [i64w]; omega)); conv => whnf)
    | ((with_reducible refine condm_pos ?_ ?_); (· assumption); conv => whnf)
    | ((with_reducible refine condm_neg ?_ ?_); (· assumption); conv => whnf)
    | ((with_reducible refine forceL_fv (by assumption) ?_); conv => whnf)
    | ((with_reducible refine forceL_rfv (by assumption) ?_); conv => whnf)
    | ((with_reducible refine forceNm_of ?_); conv => whnf)
    | ((with_reducible refine needm_of (fv_lenL (by assumption) (by assumption)) ?_); conv => whnf)
    | ((with_reducible refine optm_var (fv_strL (by assumption) (by assumption)) (fun s hs => ?_)); conv => whnf)
    | ((with_reducible refine forceA_of ?_); conv => whnf)
    | ((with_reducible refine forceL_pl (by assumption) ?_); conv => whnf)
    | ((with_reducible refine forceL_rpl (by assumption) ?_); conv => whnf)
    | fail)
  by_cases h1 : i < 0
  · have c1 : decide (i < 0) = true := decide_eq_true h1
    repeat' (first
      | ((with_reducible refine regx_of ?_ ?_); (· decide +kernel); conv => whnf)
      | ((with_reducible refine growx_pre ?_ ?_); (· exact ⟨_, rfl⟩); conv => whnf)
      | ((with_reducible refine needm_of ?_ ?_); (· first | assumption | exact decide_eq_true (by omega) | exact mkOK_of (by decide) | decide +kernel | (refine decide_eq_true ?_; simp (disch := omega) only [i64w]; omega)); conv => whnf)
      | ((with_reducible refine condm_pos ?_ ?_); (· assumption); conv => whnf)
      | ((with_reducible refine condm_neg ?_ ?_); (· assumption); conv => whnf)
      | ((with_reducible refine forceL_fv (by assumption) ?_); conv => whnf)
      | ((with_reducible refine forceL_rfv (by assumption) ?_); conv => whnf)
      | ((with_reducible refine forceNm_of ?_); conv => whnf)
      | ((with_reducible refine needm_of (fv_lenL (by assumption) (by assumption)) ?_); conv => whnf)
      | ((with_reducible refine optm_var (fv_strL (by assumption) (by assumption)) (fun s hs => ?_)); conv => whnf)
      | ((with_reducible refine forceA_of ?_); conv => whnf)
      | ((with_reducible refine forceL_pl (by assumption) ?_); conv => whnf)
      | ((with_reducible refine forceL_rpl (by assumption) ?_); conv => whnf)
      | fail)
    exact keepOf (v₀ := .t [.g z0.row, .a (.int .i64 220)]) [.cells [.int .i64 room, .slc 1 0 len cap] 57 false, .cells cs 61 mk] [0, 1] rfl ⟨rfl, ren_pl hp _ _ _, trivial⟩ (by simp [nodupb, baseb, Ob.okb, frmOk, V.okb, E.okb, A.okb, hp.2, z0, Fl.row] <;> decide) (hK1 (by omega) _ rfl)
  · have c1 : decide (i < 0) = false := decide_eq_false h1
    by_cases h2 : i ≥ (len : Int)
    · have c2 : decide (i ≥ (len : Int)) = true := decide_eq_true h2
      repeat' (first
        | ((with_reducible refine regx_of ?_ ?_); (· decide +kernel); conv => whnf)
        | ((with_reducible refine growx_pre ?_ ?_); (· exact ⟨_, rfl⟩); conv => whnf)
        | ((with_reducible refine needm_of ?_ ?_); (· first | assumption | exact decide_eq_true (by omega) | exact mkOK_of (by decide) | decide +kernel | (refine decide_eq_true ?_; simp (disch := omega) only [i64w]; omega)); conv => whnf)
        | ((with_reducible refine condm_pos ?_ ?_); (· assumption); conv => whnf)
        | ((with_reducible refine condm_neg ?_ ?_); (· assumption); conv => whnf)
        | ((with_reducible refine forceL_fv (by assumption) ?_); conv => whnf)
        | ((with_reducible refine forceL_rfv (by assumption) ?_); conv => whnf)
        | ((with_reducible refine forceNm_of ?_); conv => whnf)
        | ((with_reducible refine needm_of (fv_lenL (by assumption) (by assumption)) ?_); conv => whnf)
        | ((with_reducible refine optm_var (fv_strL (by assumption) (by assumption)) (fun s hs => ?_)); conv => whnf)
        | ((with_reducible refine forceA_of ?_); conv => whnf)
        | ((with_reducible refine forceL_pl (by assumption) ?_); conv => whnf)
        | ((with_reducible refine forceL_rpl (by assumption) ?_); conv => whnf)
        | fail)
      exact keepOf (v₀ := .t [.g z0.row, .a (.int .i64 220)]) [.cells [.int .i64 room, .slc 1 0 len cap] 57 false, .cells cs 61 mk] [0, 1] rfl ⟨rfl, ren_pl hp _ _ _, trivial⟩ (by simp [nodupb, baseb, Ob.okb, frmOk, V.okb, E.okb, A.okb, hp.2, z0, Fl.row] <;> decide) (hK1 (by omega) _ rfl)
    · have c2 : decide (i ≥ (len : Int)) = false := decide_eq_false h2
      have hi : i.toNat < L.length := by omega
      have hx : L[i.toNat]? = some L[i.toNat] := List.getElem?_eq_getElem hi
      have hr := fls_at hcs hx (o := 0 + i.toNat * Try.prog.types[61].size) (m := 0 + i.toNat * Try.prog.types[61].size + Try.prog.types[61].size) (by rw [s61]; omega) (by rw [s61]; omega)
      repeat' (first
        | ((with_reducible refine regx_of ?_ ?_); (· decide +kernel); conv => whnf)
        | ((with_reducible refine growx_pre ?_ ?_); (· exact ⟨_, rfl⟩); conv => whnf)
        | ((with_reducible refine needm_of ?_ ?_); (· first | assumption | exact decide_eq_true (by omega) | exact mkOK_of (by decide) | decide +kernel | (refine decide_eq_true ?_; simp (disch := omega) only [i64w]; omega)); conv => whnf)
        | ((with_reducible refine condm_pos ?_ ?_); (· assumption); conv => whnf)
        | ((with_reducible refine condm_neg ?_ ?_); (· assumption); conv => whnf)
        | ((with_reducible refine forceL_fv (by assumption) ?_); conv => whnf)
        | ((with_reducible refine forceL_rfv (by assumption) ?_); conv => whnf)
        | ((with_reducible refine forceNm_of ?_); conv => whnf)
        | ((with_reducible refine needm_of (fv_lenL (by assumption) (by assumption)) ?_); conv => whnf)
        | ((with_reducible refine optm_var (fv_strL (by assumption) (by assumption)) (fun s hs => ?_)); conv => whnf)
        | ((with_reducible refine forceA_of ?_); conv => whnf)
        | ((with_reducible refine forceL_pl (by assumption) ?_); conv => whnf)
        | ((with_reducible refine forceL_rpl (by assumption) ?_); conv => whnf)
        | fail)
      have hcl : cs.length = L.length * 3 := by rw [hcs, fls_length]
      generalize L[i.toNat] = x at *
      refine needm_of (decide_eq_true (by rw [hcl, s61]; omega)) ?_
      conv => whnf
      refine forceL_to hr ?_
      conv => whnf
      repeat' (first
        | ((with_reducible refine regx_of ?_ ?_); (· decide +kernel); conv => whnf)
        | ((with_reducible refine growx_pre ?_ ?_); (· exact ⟨_, rfl⟩); conv => whnf)
        | ((with_reducible refine needm_of ?_ ?_); (· first | assumption | exact decide_eq_true (by omega) | exact mkOK_of (by decide) | decide +kernel | (refine decide_eq_true ?_; simp (disch := omega) only [i64w]; omega)); conv => whnf)
        | ((with_reducible refine condm_pos ?_ ?_); (· assumption); conv => whnf)
        | ((with_reducible refine condm_neg ?_ ?_); (· assumption); conv => whnf)
        | ((with_reducible refine forceL_fv (by assumption) ?_); conv => whnf)
        | ((with_reducible refine forceL_rfv (by assumption) ?_); conv => whnf)
        | ((with_reducible refine forceNm_of ?_); conv => whnf)
        | ((with_reducible refine needm_of (fv_lenL (by assumption) (by assumption)) ?_); conv => whnf)
        | ((with_reducible refine optm_var (fv_strL (by assumption) (by assumption)) (fun s hs => ?_)); conv => whnf)
        | ((with_reducible refine forceA_of ?_); conv => whnf)
        | ((with_reducible refine forceL_pl (by assumption) ?_); conv => whnf)
        | ((with_reducible refine forceL_rpl (by assumption) ?_); conv => whnf)
        | fail)
      exact keepOf (v₀ := .t [.g x.row, .a (.int .i64 0)]) [.cells [.int .i64 room, .slc 1 0 len cap] 57 false, .cells cs 61 mk] [0, 1] rfl ⟨rfl, ren_pl hp _ _ _, trivial⟩ (by simp [nodupb, baseb, Ob.okb, frmOk, V.okb, E.okb, A.okb, hp.2, Fl.row] <;> decide) (hK2 x hx (by omega) _ rfl)
set_option maxHeartbeats 400000 in
theorem look15n (room i : Int) {K : V → Hp → Prop} (hK : K (.t [.a (.int .u8 0), .a (.int .u8 0), .a (.str ByteArray.empty), .a (.int .i64 220)]) [.cells [.int .i64 room, .nils] 57 false]) : Go.Eng.Fn Try.prog ro 15 [.a (.ptr 0 0), .a (.int .i64 i)] [.cells [.int .i64 room, .nils] 57 false] K := by
  refine Go.Eng.Fn.weak ?_
  refine Go.Eng.Fn.of 1 h15 rfl Try.func15 rfl (Nat.le_of_ble_eq_true rfl) ?_
  conv => whnf
  refine Go.Eng.Fn.frame [0] (by rfl) (by exact ⟨rfl, trivial⟩) (by rfl) (at25n room i ?_)
  conv => whnf
  repeat' (first
    | ((with_reducible refine regx_of ?_ ?_); (· decide +kernel); conv => whnf)
    | ((with_reducible refine growx_pre ?_ ?_); (· exact ⟨_, rfl⟩); conv => whnf)
    | ((with_reducible refine needm_of ?_ ?_); (· first | assumption | exact decide_eq_true (by omega) | exact mkOK_of (by decide) | decide +kernel | (refine decide_eq_true ?_; simp (disch := omega) only [i64w]; omega)); conv => whnf)
    | ((with_reducible refine condm_pos ?_ ?_); (· assumption); conv => whnf)
    | ((with_reducible refine condm_neg ?_ ?_); (· assumption); conv => whnf)
    | ((with_reducible refine forceL_fv (by assumption) ?_); conv => whnf)
    | ((with_reducible refine forceL_rfv (by assumption) ?_); conv => whnf)
    | ((with_reducible refine forceNm_of ?_); conv => whnf)
    | ((with_reducible refine needm_of (fv_lenL (by assumption) (by assumption)) ?_); conv => whnf)
    | ((with_reducible refine optm_var (fv_strL (by assumption) (by assumption)) (fun s hs => ?_)); conv => whnf)
    | ((with_reducible refine forceA_of ?_); conv => whnf)
    | ((with_reducible refine forceL_pl (by assumption) ?_); conv => whnf)
    | ((with_reducible refine forceL_rpl (by assumption) ?_); conv => whnf)
    | fail)
  exact keepOf (v₀ := .t [.a (.int .u8 0), .a (.int .u8 0), .a (.str ByteArray.empty), .a (.int .i64 220)]) [.cells [.int .i64 room, .nils] 57 false] [0] rfl ⟨rfl, trivial⟩ rfl hK
theorem store_all {l m : List A} (h : l.length = m.length) : storeL l 0 m = m := by
  rw [storeL_row _ _ _ (by omega)]
  simp [h]
set_option maxHeartbeats 400000 in
theorem look15 (room i : Int) (len cap : Nat) (cs : List A) (L : List Fl) (hcs : cs = fls L) (hlen : len ≤ L.length) (mk : Bool) {K : V → Hp → Prop}
    (hK1 : ¬ (0 ≤ i ∧ i < len) → K (.t [.a (.int .u8 0), .a (.int .u8 0), .a (.str ByteArray.empty), .a (.int .i64 220)]) [.cells [.int .i64 room, .slc 1 0 len cap] 57 false, .cells cs 61 mk])
    (hK2 : ∀ x, L[i.toNat]? = some x → (0 ≤ i ∧ i < len) → K (.t [.a (.int .u8 (x.f.toNat : Int)), .a (.int .u8 (x.t.toNat : Int)), .a (.str x.s), .a (.int .i64 0)]) [.cells [.int .i64 room, .slc 1 0 len cap] 57 false, .cells cs 61 mk]) :
    Go.Eng.Fn Try.prog ro 15 [.a (.ptr 0 0), .a (.int .i64 i)] [.cells [.int .i64 room, .slc 1 0 len cap] 57 false, .cells cs 61 mk] K := by
  have hp := Pl.fls hcs
  obtain ⟨z3, hz3⟩ : ∃ z : List A, z = [.int .u8 0, .int .u8 0, .str { data := #[] }] := ⟨_, rfl⟩
  have hzp : Pl z3 := by rw [hz3]; exact ⟨fun _ => rfl, fun _ => rfl⟩
  have hzl : z3.length = 3 := by rw [hz3]; rfl
  refine Go.Eng.Fn.weak ?_
  refine Go.Eng.Fn.of 2 h15 rfl Try.func15 rfl (Nat.le_of_ble_eq_true rfl) ?_
  conv => whnf
  refine Go.Eng.Fn.frame [0, 1] (by rfl) (by exact ⟨rfl, ren_pl hp _ _ _, trivial⟩) (by simp [nodupb, V.okb, A.okb, Ob.okb, hp.2] <;> decide) (at25 room i len cap cs L hcs hlen mk (fun h xr hxr => ?_) (fun x hx h xr hxr => ?_))
  all_goals
    have hxp : Pl xr := by rw [hxr]; exact ⟨fun _ => rfl, fun _ => rfl⟩
    have hxl : xr.length = 3 := by rw [hxr]; rfl
  · have g0 : xr[0]? = some (.int .u8 0) := by rw [hxr]; rfl
    have g1 : xr[1]? = some (.int .u8 0) := by rw [hxr]; rfl
    have g2 : xr[2]? = some (.str ByteArray.empty) := by rw [hxr]; rfl
    conv => whnf
    repeat' (first
      | rw [← hz3]
      | ((with_reducible refine regx_of ?_ ?_); (· decide +kernel); conv => whnf)
      | ((with_reducible refine growx_pre ?_ ?_); (· exact ⟨_, rfl⟩); conv => whnf)
      | ((with_reducible refine needm_of ?_ ?_); (· first | assumption | exact decide_eq_true (by omega) | exact mkOK_of (by decide) | decide +kernel | (refine decide_eq_true ?_; simp (disch := omega) only [i64w]; omega)); conv => whnf)
      | ((with_reducible refine condm_pos ?_ ?_); (· assumption); conv => whnf)
      | ((with_reducible refine condm_neg ?_ ?_); (· assumption); conv => whnf)
      | ((with_reducible refine forceL_fv (by assumption) ?_); conv => whnf)
      | ((with_reducible refine forceL_rfv (by assumption) ?_); conv => whnf)
      | ((with_reducible refine forceNm_of ?_); conv => whnf)
      | ((with_reducible refine needm_of (fv_lenL (by assumption) (by assumption)) ?_); conv => whnf)
      | ((with_reducible refine optm_var (fv_strL (by assumption) (by assumption)) (fun s hs => ?_)); conv => whnf)
      | ((with_reducible refine forceA_of ?_); conv => whnf)
      | ((with_reducible refine forceL_pl (by assumption) ?_); conv => whnf)
      | ((with_reducible refine forceL_rpl (by assumption) ?_); conv => whnf)
      | ((with_reducible refine needm_of ?_ ?_); (· (rw [hxl, hzl]; rfl)); conv => whnf)
      | ((with_reducible refine forceL_to (store_all ?_) ?_); (· rw [hxl, hzl]); conv => whnf)
      | ((with_reducible refine optm_of g0 ?_); conv => whnf)
      | ((with_reducible refine optm_of g1 ?_); conv => whnf)
      | ((with_reducible refine optm_of g2 ?_); conv => whnf)
      | fail)
    exact keepOf (v₀ := .t [.a (.int .u8 0), .a (.int .u8 0), .a (.str ByteArray.empty), .a (.int .i64 220)]) [.cells [.int .i64 room, .slc 1 0 len cap] 57 false, .cells cs 61 mk] [0, 1] rfl ⟨rfl, ren_pl hp _ _ _, trivial⟩ (by simp [nodupb, baseb, Ob.okb, frmOk, V.okb, E.okb, A.okb, hp.2] <;> decide) (hK1 h)
  · have g0 : xr[0]? = some (.int .u8 (x.f.toNat : Int)) := by rw [hxr]; rfl
    have g1 : xr[1]? = some (.int .u8 (x.t.toNat : Int)) := by rw [hxr]; rfl
    have g2 : xr[2]? = some (.str x.s) := by rw [hxr]; rfl
    conv => whnf
    repeat' (first
      | rw [← hz3]
      | ((with_reducible refine regx_of ?_ ?_); (· decide +kernel); conv => whnf)
      | ((with_reducible refine growx_pre ?_ ?_); (· exact ⟨_, rfl⟩); conv => whnf)
      | ((with_reducible refine needm_of ?_ ?_); (· first | assumption | exact decide_eq_true (by omega) | exact mkOK_of (by decide) | decide +kernel | (refine decide_eq_true ?_; simp (disch := omega) only [i64w]; omega)); conv => whnf)
      | ((with_reducible refine condm_pos ?_ ?_); (· assumption); conv => whnf)
      | ((with_reducible refine condm_neg ?_ ?_); (· assumption); conv => whnf)
      | ((with_reducible refine forceL_fv (by assumption) ?_); conv => whnf)
      | ((with_reducible refine forceL_rfv (by assumption) ?_); conv => whnf)
      | ((with_reducible refine forceNm_of ?_); conv => whnf)
      | ((with_reducible refine needm_of (fv_lenL (by assumption) (by assumption)) ?_); conv => whnf)
      | ((with_reducible refine optm_var (fv_strL (by assumption) (by assumption)) (fun s hs => ?_)); conv => whnf)
      | ((with_reducible refine forceA_of ?_); conv => whnf)
      | ((with_reducible refine forceL_pl (by assumption) ?_); conv => whnf)
      | ((with_reducible refine forceL_rpl (by assumption) ?_); conv => whnf)
      | ((with_reducible refine needm_of ?_ ?_); (· (rw [hxl, hzl]; rfl)); conv => whnf)
      | ((with_reducible refine forceL_to (store_all ?_) ?_); (· rw [hxl, hzl]); conv => whnf)
      | ((with_reducible refine optm_of g0 ?_); conv => whnf)
      | ((with_reducible refine optm_of g1 ?_); conv => whnf)
      | ((with_reducible refine optm_of g2 ?_); conv => whnf)
      | fail)
    exact keepOf (v₀ := .t [.a (.int .u8 (x.f.toNat : Int)), .a (.int .u8 (x.t.toNat : Int)), .a (.str x.s), .a (.int .i64 0)]) [.cells [.int .i64 room, .slc 1 0 len cap] 57 false, .cells cs 61 mk] [0, 1] rfl ⟨rfl, ren_pl hp _ _ _, trivial⟩ (by simp [nodupb, baseb, Ob.okb, frmOk, V.okb, E.okb, A.okb, hp.2] <;> decide) (hK2 x hx h)
end
end Go.Proofs.Ytkggpkgnkppceaa.LK
