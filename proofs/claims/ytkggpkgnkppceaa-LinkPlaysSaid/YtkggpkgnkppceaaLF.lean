import Derived.Test.YtkggpkgnkppceaaLE
namespace Go.Proofs.Ytkggpkgnkppceaa.LK
open Go.Eng
set_option maxRecDepth 100000
theorem fls_over {cs : List A} {A' B : List Fl} {j o : Nat} (e : cs = fls A') (ho : o = j * 3) (h : j + B.length ≤ A'.length) : storeL cs o (fls B) = fls (A'.take j ++ B ++ A'.drop (j + B.length)) := by
  have hl : cs.length = A'.length * 3 := by rw [e, fls_length]
  rw [ho, storeL_row _ _ _ (by rw [fls_length, hl]; omega), fls_length, fls_take e j (by omega), show j * 3 + B.length * 3 = (j + B.length) * 3 by omega, fls_drop e _ h, ← fls_append, ← fls_append]
theorem erase_len {L : List Fl} {j : Nat} (h : j < L.length) : (L.eraseIdx j).length = L.length - 1 := by
  rw [List.length_eraseIdx, if_pos h]
theorem erase_row {L y : List Fl} {j n : Nat} (hn : L.length = n) (hj : j < n) :
    (((L ++ y).take j ++ L.drop (j + 1) ++ (L ++ y).drop (j + (L.drop (j + 1)).length)).take (n - 1) ++ [z0] ++ ((L ++ y).take j ++ L.drop (j + 1) ++ (L ++ y).drop (j + (L.drop (j + 1)).length)).drop (n - 1 + [z0].length)) = L.eraseIdx j ++ ([z0] ++ y) := by
  have e1 : (L ++ y).take j = L.take j := List.take_append_of_le_length (by omega)
  have e2 : (L ++ y).drop (j + (L.drop (j + 1)).length) = L.drop (n - 1) ++ y := by
    rw [List.length_drop, List.drop_append_of_le_length (by omega), show j + (L.length - (j + 1)) = n - 1 by omega]
  have e3 : L.take j ++ L.drop (j + 1) = L.eraseIdx j := (List.eraseIdx_eq_take_drop_succ L j).symm
  have el : (L.eraseIdx j).length = n - 1 := by rw [erase_len (by omega), hn]
  have ed : (L.drop (n - 1)).length = 1 := by rw [List.length_drop]; omega
  have hd : (L.eraseIdx j ++ (L.drop (n - 1) ++ y)).drop (n - 1 + [z0].length) = y := by
    rw [← List.append_assoc]
    exact List.drop_left' (by rw [List.length_append, el, ed]; rfl)
  rw [e1, e2, e3, List.take_left' el, hd, List.append_assoc]
section
variable {ro : Addr → A → Prop}
set_option maxHeartbeats 400000 in
theorem deliver11n (room i : Int) {K : V → Hp → Prop} (hK : K (.t [.a (.int .u8 0), .a (.int .u8 0), .a (.str ByteArray.empty), .a (.int .i64 220)]) [.cells [.int .i64 room, .nils] 57 false]) : Go.Eng.Fn Try.prog ro 11 [.a (.ptr 0 0), .a (.int .i64 i)] [.cells [.int .i64 room, .nils] 57 false] K := by
  refine Go.Eng.Fn.weak ?_
  refine Go.Eng.Fn.of 1 h11 rfl Try.func11 rfl (Nat.le_of_ble_eq_true rfl) ?_
  conv => whnf
  refine Go.Eng.Fn.frame [0] (by rfl) (by exact ⟨rfl, trivial⟩) (by rfl) (at25n room i ?_)
  conv => whnf
  repeat' (first
    | ((with_reducible refine regx_of ?_ ?_); (· decide +kernel); conv => whnf)
    | ((with_reducible refine growx_pre ?_ ?_); (· exact ⟨_, rfl⟩); conv => whnf)
    | ((with_reducible refine needm_of ?_ ?_); (· first | assumption | exact decide_eq_true (by omega) | exact mkOK_of (by decide) | decide +kernel | (refine decide_eq_true ?_; simp (disch := omega) only [i64w]; omega)); conv => whnf)
    | ((with_reducible refine condm_pos ?_ ?_); (· assumption); conv => whnf)
    | ((with_reducible refine condm_neg ?_ ?_); (· assumption); conv => whnf)
    | ((with_reducible refine forceL_fv (by assumption) ?_); conv => whnf)
    | ((with_reducible refine forceL_rfv (by assumption) ?_); conv => whnf)
    | ((with_reducible refine forceNm_of ?_); conv => whnf)
    | ((with_reducible refine needm_of (fv_lenL (by assumption) (by assumption)) ?_); conv => whnf)
    | ((with_reducible refine optm_var (fv_strL (by assumption) (by assumption)) (fun s hs => ?_)); conv => whnf)
    | ((with_reducible refine forceA_of ?_); conv => whnf)
    | ((with_reducible refine forceL_pl (by assumption) ?_); conv => whnf)
    | ((with_reducible refine forceL_rpl (by assumption) ?_); conv => whnf)
    | fail)
  exact keepOf (v₀ := .t [.a (.int .u8 0), .a (.int .u8 0), .a (.str ByteArray.empty), .a (.int .i64 220)]) [.cells [.int .i64 room, .nils] 57 false] [0] rfl ⟨rfl, trivial⟩ rfl hK
set_option maxHeartbeats 2000000 in
theorem deliver11 (room i : Int) (L y : List Fl) (cs : List A) (cap : Nat) (mk : Bool) (hcs : cs = fls (L ++ y)) (hcap : cap = L.length + y.length) (hL : L.length ≤ 1024) {K : V → Hp → Prop}
    (hK1 : ¬ (0 ≤ i ∧ i < L.length) → K (.t [.a (.int .u8 0), .a (.int .u8 0), .a (.str ByteArray.empty), .a (.int .i64 220)]) [.cells [.int .i64 room, .slc 1 0 L.length cap] 57 false, .cells cs 61 mk])
    (hK2 : ∀ x, L[i.toNat]? = some x → (0 ≤ i ∧ i < L.length) → ∀ y cs', cs' = fls (L.eraseIdx i.toNat ++ y) → cap = (L.eraseIdx i.toNat).length + y.length → K (.t [.a (.int .u8 (x.f.toNat : Int)), .a (.int .u8 (x.t.toNat : Int)), .a (.str x.s), .a (.int .i64 0)]) [.cells [.int .i64 room, .slc 1 0 (L.eraseIdx i.toNat).length cap] 57 false, .cells cs' 61 mk]) :
    Go.Eng.Fn Try.prog ro 11 [.a (.ptr 0 0), .a (.int .i64 i)] [.cells [.int .i64 room, .slc 1 0 L.length cap] 57 false, .cells cs 61 mk] K := by
  have hp := Pl.fls hcs
  have hcl : cs.length = (L.length + y.length) * 3 := by rw [hcs, fls_length, List.length_append]
  obtain ⟨z3, hz3⟩ : ∃ z : List A, z = [.int .u8 0, .int .u8 0, .str { data := #[] }] := ⟨_, rfl⟩
  have hzp : Pl z3 := by rw [hz3]; exact ⟨fun _ => rfl, fun _ => rfl⟩
  have hzl : z3.length = 3 := by rw [hz3]; rfl
  refine Go.Eng.Fn.weak ?_
  refine Go.Eng.Fn.of 2 h11 rfl Try.func11 rfl (Nat.le_of_ble_eq_true rfl) ?_
  conv => whnf
  refine Go.Eng.Fn.frame [0, 1] (by rfl) (by exact ⟨rfl, ren_pl hp _ _ _, trivial⟩) (by simp [nodupb, V.okb, A.okb, Ob.okb, hp.2] <;> decide) (at25 room i L.length cap cs _ hcs (by rw [List.length_append]; omega) mk (fun h xr hxr => ?_) (fun x hx h xr hxr => ?_))
  all_goals
    have hxp : Pl xr := by rw [hxr]; exact ⟨fun _ => rfl, fun _ => rfl⟩
    have hxl : xr.length = 3 := by rw [hxr]; rfl
  · have g0 : xr[0]? = some (.int .u8 0) := by rw [hxr]; rfl
    have g1 : xr[1]? = some (.int .u8 0) := by rw [hxr]; rfl
    have g2 : xr[2]? = some (.str ByteArray.empty) := by rw [hxr]; rfl
    generalize L.length = n at *
    conv => whnf
    repeat' (first
      | rw [← hz3]
      | ((with_reducible refine regx_of ?_ ?_); (· decide +kernel); conv => whnf)
      | ((with_reducible refine growx_pre ?_ ?_); (· exact ⟨_, rfl⟩); conv => whnf)
      | ((with_reducible refine needm_of ?_ ?_); (· first | assumption | exact decide_eq_true (by omega) | exact mkOK_of (by decide) | decide +kernel | (refine decide_eq_true ?_; simp (disch := omega) only [i64w]; omega)); conv => whnf)
      | ((with_reducible refine condm_pos ?_ ?_); (· assumption); conv => whnf)
      | ((with_reducible refine condm_neg ?_ ?_); (· assumption); conv => whnf)
      | ((with_reducible refine forceL_fv (by assumption) ?_); conv => whnf)
      | ((with_reducible refine forceL_rfv (by assumption) ?_); conv => whnf)
      | ((with_reducible refine forceNm_of ?_); conv => whnf)
      | ((with_reducible refine needm_of (fv_lenL (by assumption) (by assumption)) ?_); conv => whnf)
      | ((with_reducible refine optm_var (fv_strL (by assumption) (by assumption)) (fun s hs => ?_)); conv => whnf)
      | ((with_reducible refine forceA_of ?_); conv => whnf)
      | ((with_reducible refine forceL_pl (by assumption) ?_); conv => whnf)
      | ((with_reducible refine forceL_rpl (by assumption) ?_); conv => whnf)
      | ((with_reducible refine needm_of ?_ ?_); (· (rw [hxl, hzl]; rfl)); conv => whnf)
      | ((with_reducible refine forceL_to (store_all ?_) ?_); (· rw [hxl, hzl]); conv => whnf)
      | ((with_reducible refine optm_of g0 ?_); conv => whnf)
      | ((with_reducible refine optm_of g1 ?_); conv => whnf)
      | ((with_reducible refine optm_of g2 ?_); conv => whnf)
      | fail)
    exact keepOf (v₀ := .t [.a (.int .u8 0), .a (.int .u8 0), .a (.str ByteArray.empty), .a (.int .i64 220)]) [.cells [.int .i64 room, .slc 1 0 n cap] 57 false, .cells cs 61 mk] [0, 1] rfl ⟨rfl, ren_pl hp _ _ _, trivial⟩ (by simp [nodupb, baseb, Ob.okb, frmOk, V.okb, E.okb, A.okb, hp.2] <;> decide) (hK1 h)
  · have g0 : xr[0]? = some (.int .u8 (x.f.toNat : Int)) := by rw [hxr]; rfl
    have g1 : xr[1]? = some (.int .u8 (x.t.toNat : Int)) := by rw [hxr]; rfl
    have g2 : xr[2]? = some (.str x.s) := by rw [hxr]; rfl
    obtain ⟨j, rfl⟩ : ∃ j : Nat, i = (j : Int) := ⟨i.toNat, by omega⟩
    rw [Int.toNat_natCast] at hx hK2
    have hjn : j < L.length := by omega
    have e1 : IntKind.i64.wrap ((j : Int) + 1) = ((j + 1 : Nat) : Int) := by rw [i64w (by omega) (by omega)]; rfl
    generalize hn : L.length = n at *
    conv => whnf
    repeat' (first
      | rw [e1]
      | rw [← hz3]
      | ((with_reducible refine regx_of ?_ ?_); (· decide +kernel); conv => whnf)
      | ((with_reducible refine growx_pre ?_ ?_); (· exact ⟨_, rfl⟩); conv => whnf)
      | ((with_reducible refine needm_of ?_ ?_); (· first | assumption | exact decide_eq_true (by omega) | exact mkOK_of (by decide) | decide +kernel | (refine decide_eq_true ?_; simp (disch := omega) only [i64w]; omega)); conv => whnf)
      | ((with_reducible refine condm_pos ?_ ?_); (· assumption); conv => whnf)
      | ((with_reducible refine condm_neg ?_ ?_); (· assumption); conv => whnf)
      | ((with_reducible refine forceL_fv (by assumption) ?_); conv => whnf)
      | ((with_reducible refine forceL_rfv (by assumption) ?_); conv => whnf)
      | ((with_reducible refine forceNm_of ?_); conv => whnf)
      | ((with_reducible refine needm_of (fv_lenL (by assumption) (by assumption)) ?_); conv => whnf)
      | ((with_reducible refine optm_var (fv_strL (by assumption) (by assumption)) (fun s hs => ?_)); conv => whnf)
      | ((with_reducible refine forceA_of ?_); conv => whnf)
      | ((with_reducible refine forceL_pl (by assumption) ?_); conv => whnf)
      | ((with_reducible refine forceL_rpl (by assumption) ?_); conv => whnf)
      | ((with_reducible refine needm_of ?_ ?_); (· (rw [hxl, hzl]; rfl)); conv => whnf)
      | ((with_reducible refine forceL_to (store_all ?_) ?_); (· rw [hxl, hzl]); conv => whnf)
      | ((with_reducible refine optm_of g0 ?_); conv => whnf)
      | ((with_reducible refine optm_of g1 ?_); conv => whnf)
      | ((with_reducible refine optm_of g2 ?_); conv => whnf)
      | ((with_reducible refine And.intro ?_ ?_) <;> (conv => whnf))
      | fail)
    all_goals
      have hC1 : (((j + 1 : Nat) : Int)).toNat = j + 1 := Int.toNat_natCast _
      have hC2 : ((j : Int)).toNat = j := Int.toNat_natCast _
      rw [hC1, hC2]
      have hmin : (n - (j + 1)).min (n - j) = n - (j + 1) := Nat.min_eq_left (by omega)
      rw [hmin]
      have e3 : (if cap = j then 0 else 0 + j * Try.prog.types[61].size) = j * 3 := by rw [if_neg (by omega), s61, Nat.zero_add]
      have hnew : List.drop (if cap = j + 1 then 0 else 0 + (j + 1) * Try.prog.types[61].size) (List.take ((if cap = j + 1 then 0 else 0 + (j + 1) * Try.prog.types[61].size) + (n - (j + 1)) * Try.prog.types[61].size) cs) = fls (L.drop (j + 1)) := by
        rw [s61]
        by_cases hk : n = j + 1
        · rw [show n - (j + 1) = 0 by omega, Nat.zero_mul, Nat.add_zero, List.drop_of_length_le (by rw [List.length_take]; omega), List.drop_of_length_le (by omega), fls_nil]
        · rw [if_neg (by omega), Nat.zero_add, show (j + 1) * 3 + (n - (j + 1)) * 3 = n * 3 by omega, fls_take hcs n (by rw [List.length_append]; omega), fls_drop rfl (j + 1) (by rw [List.length_take, List.length_append]; omega), List.take_left' hn]
      have hneed : (if cap = j + 1 then 0 else 0 + (j + 1) * Try.prog.types[61].size) + (n - (j + 1)) * Try.prog.types[61].size ≤ cs.length := by
        rw [s61]
        split <;> omega
      refine needm_of (decide_eq_true hneed) ?_
      conv => whnf
      rw [hnew, e3]
      refine needm_of (decide_eq_true (by rw [fls_length, List.length_drop, hn]; omega)) ?_
      conv => whnf
      repeat' (first
        | rw [← hz3]
        | ((with_reducible refine regx_of ?_ ?_); (· decide +kernel); conv => whnf)
        | ((with_reducible refine growx_pre ?_ ?_); (· exact ⟨_, rfl⟩); conv => whnf)
        | ((with_reducible refine needm_of ?_ ?_); (· first | assumption | exact decide_eq_true (by omega) | exact mkOK_of (by decide) | decide +kernel | (refine decide_eq_true ?_; simp (disch := omega) only [i64w]; omega)); conv => whnf)
        | ((with_reducible refine condm_pos ?_ ?_); (· assumption); conv => whnf)
        | ((with_reducible refine condm_neg ?_ ?_); (· assumption); conv => whnf)
        | ((with_reducible refine forceL_fv (by assumption) ?_); conv => whnf)
        | ((with_reducible refine forceL_rfv (by assumption) ?_); conv => whnf)
        | ((with_reducible refine forceNm_of ?_); conv => whnf)
        | ((with_reducible refine needm_of (fv_lenL (by assumption) (by assumption)) ?_); conv => whnf)
        | ((with_reducible refine optm_var (fv_strL (by assumption) (by assumption)) (fun s hs => ?_)); conv => whnf)
        | ((with_reducible refine forceA_of ?_); conv => whnf)
        | ((with_reducible refine forceL_pl (by assumption) ?_); conv => whnf)
        | ((with_reducible refine forceL_rpl (by assumption) ?_); conv => whnf)
        | ((with_reducible refine needm_of ?_ ?_); (· (rw [hxl, hzl]; rfl)); conv => whnf)
        | ((with_reducible refine forceL_to (store_all ?_) ?_); (· rw [hxl, hzl]); conv => whnf)
        | ((with_reducible refine optm_of g0 ?_); conv => whnf)
        | ((with_reducible refine optm_of g1 ?_); conv => whnf)
        | ((with_reducible refine optm_of g2 ?_); conv => whnf)
        | fail)
      refine forceL_var (fls_over hcs rfl (by rw [List.length_drop, List.length_append]; omega)) (fun cs2 hcs2 => ?_)
      have hp2 := Pl.fls hcs2
      conv => whnf
      have e6 : IntKind.i64.wrap ((n : Int) - 1) = ((n - 1 : Nat) : Int) := by rw [i64w (by omega) (by omega)]; omega
      repeat' (first
        | rw [e6]
        | rw [← hz3]
        | ((with_reducible refine regx_of ?_ ?_); (· decide +kernel); conv => whnf)
        | ((with_reducible refine growx_pre ?_ ?_); (· exact ⟨_, rfl⟩); conv => whnf)
        | ((with_reducible refine needm_of ?_ ?_); (· first | assumption | exact decide_eq_true (by omega) | exact mkOK_of (by decide) | decide +kernel | (refine decide_eq_true ?_; simp (disch := omega) only [i64w]; omega)); conv => whnf)
        | ((with_reducible refine condm_pos ?_ ?_); (· assumption); conv => whnf)
        | ((with_reducible refine condm_neg ?_ ?_); (· assumption); conv => whnf)
        | ((with_reducible refine forceL_fv (by assumption) ?_); conv => whnf)
        | ((with_reducible refine forceL_rfv (by assumption) ?_); conv => whnf)
        | ((with_reducible refine forceNm_of ?_); conv => whnf)
        | ((with_reducible refine needm_of (fv_lenL (by assumption) (by assumption)) ?_); conv => whnf)
        | ((with_reducible refine optm_var (fv_strL (by assumption) (by assumption)) (fun s hs => ?_)); conv => whnf)
        | ((with_reducible refine forceA_of ?_); conv => whnf)
        | ((with_reducible refine forceL_pl (by assumption) ?_); conv => whnf)
        | ((with_reducible refine forceL_rpl (by assumption) ?_); conv => whnf)
        | ((with_reducible refine needm_of ?_ ?_); (· (rw [hxl, hzl]; rfl)); conv => whnf)
        | ((with_reducible refine forceL_to (store_all ?_) ?_); (· rw [hxl, hzl]); conv => whnf)
        | ((with_reducible refine optm_of g0 ?_); conv => whnf)
        | ((with_reducible refine optm_of g1 ?_); conv => whnf)
        | ((with_reducible refine optm_of g2 ?_); conv => whnf)
        | ((with_reducible refine And.intro ?_ ?_) <;> (conv => whnf))
        | fail)
    all_goals
      have hC3 : (((n - 1 : Nat) : Int)).toNat = n - 1 := Int.toNat_natCast _
      rw [hC3]
      have e7 : n - (n - 1) = 1 := by omega
      have e8 : (if cap = n - 1 then 0 else 0 + (n - 1) * Try.prog.types[61].size) = (n - 1) * 3 := by rw [if_neg (by omega), s61, Nat.zero_add]
      rw [e7, e8]
      have hcl2 : cs2.length = (n + y.length) * 3 := by rw [hcs2, fls_length]; simp only [List.length_append, List.length_take, List.length_drop]; omega
      have hrz1 : repl z3 ((0 + 1) * Try.prog.types[61].size) = fls [z0] := by rw [hz3, s61]; unfold fls; rfl
      conv => whnf
      repeat' (first
        | rw [← hz3]
        | rw [hrz1]
        | rw [← hz3]
        | ((with_reducible refine regx_of ?_ ?_); (· decide +kernel); conv => whnf)
        | ((with_reducible refine growx_pre ?_ ?_); (· exact ⟨_, rfl⟩); conv => whnf)
        | ((with_reducible refine needm_of ?_ ?_); (· first | assumption | exact decide_eq_true (by omega) | exact mkOK_of (by decide) | decide +kernel | (refine decide_eq_true ?_; simp (disch := omega) only [i64w]; omega)); conv => whnf)
        | ((with_reducible refine condm_pos ?_ ?_); (· assumption); conv => whnf)
        | ((with_reducible refine condm_neg ?_ ?_); (· assumption); conv => whnf)
        | ((with_reducible refine forceL_fv (by assumption) ?_); conv => whnf)
        | ((with_reducible refine forceL_rfv (by assumption) ?_); conv => whnf)
        | ((with_reducible refine forceNm_of ?_); conv => whnf)
        | ((with_reducible refine needm_of (fv_lenL (by assumption) (by assumption)) ?_); conv => whnf)
        | ((with_reducible refine optm_var (fv_strL (by assumption) (by assumption)) (fun s hs => ?_)); conv => whnf)
        | ((with_reducible refine forceA_of ?_); conv => whnf)
        | ((with_reducible refine forceL_pl (by assumption) ?_); conv => whnf)
        | ((with_reducible refine forceL_rpl (by assumption) ?_); conv => whnf)
        | ((with_reducible refine needm_of ?_ ?_); (· (rw [hxl, hzl]; rfl)); conv => whnf)
        | ((with_reducible refine forceL_to (store_all ?_) ?_); (· rw [hxl, hzl]); conv => whnf)
        | ((with_reducible refine optm_of g0 ?_); conv => whnf)
        | ((with_reducible refine optm_of g1 ?_); conv => whnf)
        | ((with_reducible refine optm_of g2 ?_); conv => whnf)
        | fail)
    all_goals
      refine needm_of (by rw [hzl, hcl2, s61]; simp; omega) ?_
      conv => whnf
      repeat' (first
        | rw [← hz3]
        | ((with_reducible refine regx_of ?_ ?_); (· decide +kernel); conv => whnf)
        | ((with_reducible refine growx_pre ?_ ?_); (· exact ⟨_, rfl⟩); conv => whnf)
        | ((with_reducible refine needm_of ?_ ?_); (· first | assumption | exact decide_eq_true (by omega) | exact mkOK_of (by decide) | decide +kernel | (refine decide_eq_true ?_; simp (disch := omega) only [i64w]; omega)); conv => whnf)
        | ((with_reducible refine condm_pos ?_ ?_); (· assumption); conv => whnf)
        | ((with_reducible refine condm_neg ?_ ?_); (· assumption); conv => whnf)
        | ((with_reducible refine forceL_fv (by assumption) ?_); conv => whnf)
        | ((with_reducible refine forceL_rfv (by assumption) ?_); conv => whnf)
        | ((with_reducible refine forceNm_of ?_); conv => whnf)
        | ((with_reducible refine needm_of (fv_lenL (by assumption) (by assumption)) ?_); conv => whnf)
        | ((with_reducible refine optm_var (fv_strL (by assumption) (by assumption)) (fun s hs => ?_)); conv => whnf)
        | ((with_reducible refine forceA_of ?_); conv => whnf)
        | ((with_reducible refine forceL_pl (by assumption) ?_); conv => whnf)
        | ((with_reducible refine forceL_rpl (by assumption) ?_); conv => whnf)
        | ((with_reducible refine needm_of ?_ ?_); (· (rw [hxl, hzl]; rfl)); conv => whnf)
        | ((with_reducible refine forceL_to (store_all ?_) ?_); (· rw [hxl, hzl]); conv => whnf)
        | ((with_reducible refine optm_of g0 ?_); conv => whnf)
        | ((with_reducible refine optm_of g1 ?_); conv => whnf)
        | ((with_reducible refine optm_of g2 ?_); conv => whnf)
        | fail)
      refine forceL_var (fls_over hcs2 rfl (by simp only [List.length_append, List.length_take, List.length_drop, List.length_singleton]; omega)) (fun cs3 hcs3 => ?_)
      rw [erase_row hn hjn] at hcs3
      have hp3 := Pl.fls hcs3
      conv => whnf
      repeat' (first
        | rw [e6]
        | rw [← hz3]
        | ((with_reducible refine regx_of ?_ ?_); (· decide +kernel); conv => whnf)
        | ((with_reducible refine growx_pre ?_ ?_); (· exact ⟨_, rfl⟩); conv => whnf)
        | ((with_reducible refine needm_of ?_ ?_); (· first | assumption | exact decide_eq_true (by omega) | exact mkOK_of (by decide) | decide +kernel | (refine decide_eq_true ?_; simp (disch := omega) only [i64w]; omega)); conv => whnf)
        | ((with_reducible refine condm_pos ?_ ?_); (· assumption); conv => whnf)
        | ((with_reducible refine condm_neg ?_ ?_); (· assumption); conv => whnf)
        | ((with_reducible refine forceL_fv (by assumption) ?_); conv => whnf)
        | ((with_reducible refine forceL_rfv (by assumption) ?_); conv => whnf)
        | ((with_reducible refine forceNm_of ?_); conv => whnf)
        | ((with_reducible refine needm_of (fv_lenL (by assumption) (by assumption)) ?_); conv => whnf)
        | ((with_reducible refine optm_var (fv_strL (by assumption) (by assumption)) (fun s hs => ?_)); conv => whnf)
        | ((with_reducible refine forceA_of ?_); conv => whnf)
        | ((with_reducible refine forceL_pl (by assumption) ?_); conv => whnf)
        | ((with_reducible refine forceL_rpl (by assumption) ?_); conv => whnf)
        | ((with_reducible refine needm_of ?_ ?_); (· (rw [hxl, hzl]; rfl)); conv => whnf)
        | ((with_reducible refine forceL_to (store_all ?_) ?_); (· rw [hxl, hzl]); conv => whnf)
        | ((with_reducible refine optm_of g0 ?_); conv => whnf)
        | ((with_reducible refine optm_of g1 ?_); conv => whnf)
        | ((with_reducible refine optm_of g2 ?_); conv => whnf)
        | ((with_reducible refine And.intro ?_ ?_) <;> (conv => whnf))
        | fail)
    all_goals
      have e9 : (if cap = 0 then 0 else 0 + 0 * Try.prog.types[61].size) = 0 := by split <;> simp
      rw [e9, hC3]
      have el : (L.eraseIdx j).length = n - 1 := by rw [erase_len (by omega), hn]
      have hx0 : L[j]? = some x := by rw [List.getElem?_append_left (by omega)] at hx; exact hx
      have hk := hK2 x hx0 ⟨by omega, by omega⟩ ([z0] ++ y) cs3 hcs3 (by rw [el, List.length_append, List.length_singleton]; omega)
      rw [el] at hk
      exact keepOf (v₀ := .t [.a (.int .u8 (x.f.toNat : Int)), .a (.int .u8 (x.t.toNat : Int)), .a (.str x.s), .a (.int .i64 0)]) [.cells [.int .i64 room, .slc 1 0 (n - 1) cap] 57 false, .cells cs3 61 mk] [0, 1] rfl ⟨rfl, ren_pl hp3 _ _ _, trivial⟩ (by simp [nodupb, baseb, Ob.okb, frmOk, V.okb, E.okb, A.okb, hp3.2] <;> decide) hk
end
end Go.Proofs.Ytkggpkgnkppceaa.LK
