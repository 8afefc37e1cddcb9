import Derived.Test.YtkggpkgnkppceaaME
namespace Go.Proofs.Ytkggpkgnkppceaa.LK
open Go.Eng
set_option maxRecDepth 100000
section
variable {ro : Addr → A → Prop}
set_option maxHeartbeats 1000000 in
theorem turn33 (room : Int) (i j : Int) (L y : List Fl) (cs : List A) (cap : Nat) (mk : Bool) (hcs : cs = fls (L ++ y)) (hL : L.length ≤ 1024) {K : V → Hp → Prop}
    (hK0 : ¬ ((0 ≤ i ∧ i < L.length) ∧ (0 ≤ j ∧ j < L.length)) → K (.a (.int .i64 220)) [.cells [.int .i64 room, .slc 1 0 L.length cap] 47 false, .cells cs 69 mk])
    (hK1 : ∀ xi xj, L[i.toNat]? = some xi → L[j.toNat]? = some xj → 0 ≤ i ∧ i < L.length → 0 ≤ j ∧ j < L.length → ∀ y cs' cap', cs' = fls (((L.set i.toNat xj).set j.toNat xi) ++ y) → cap' = L.length + y.length → K (.a (.int .i64 0)) [.cells [.int .i64 room, .slc 2 0 L.length cap'] 47 false, .cells cs 69 mk, .cells cs' 69 false]) :
    Go.Eng.Fn Try.prog ro 33 [.a (.ptr 0 0), .a (.int .i64 i), .a (.int .i64 j)] [.cells [.int .i64 room, .slc 1 0 L.length cap] 47 false, .cells cs 69 mk] K := by
  have hp := Pl.fls hcs
  have hcl : cs.length = (L.length + y.length) * 3 := by rw [hcs, fls_length, List.length_append]
  obtain ⟨z3, hz3⟩ : ∃ z : List A, z = [.int .u8 0, .int .u8 0, .str { data := #[] }] := ⟨_, rfl⟩
  have hzp : Pl z3 := by rw [hz3]; exact ⟨fun _ => rfl, fun _ => rfl⟩
  have hzl : z3.length = 3 := by rw [hz3]; rfl
  have hrz : repl z3 (1 * Try.prog.types[69].size) = z3 := by rw [hz3]; rfl
  refine Go.Eng.Fn.weak ?_
  refine Go.Eng.Fn.of 2 (gOf []) rfl Try.func33 rfl (Nat.le_of_ble_eq_true rfl) ?_
  conv => whnf
  repeat' (first
    | ((with_reducible refine regx_of ?_ ?_); (· decide +kernel); conv => whnf)
    | ((with_reducible refine growx_pre ?_ ?_); (· exact ⟨_, rfl⟩); conv => whnf)
    | ((with_reducible refine needm_of ?_ ?_); (· first | assumption | exact decide_eq_true (by omega) | exact mkOK_of (by decide) | decide +kernel | (refine decide_eq_true ?_; simp (disch := omega) only [i64w]; omega)); conv => whnf)
    | ((with_reducible refine condm_pos ?_ ?_); (· assumption); conv => whnf)
    | ((with_reducible refine condm_neg ?_ ?_); (· assumption); conv => whnf)
    | ((with_reducible refine forceL_fv (by assumption) ?_); conv => whnf)
    | ((with_reducible refine forceL_rfv (by assumption) ?_); conv => whnf)
    | ((with_reducible refine forceNm_of ?_); conv => whnf)
    | ((with_reducible refine needm_of (fv_lenL (by assumption) (by assumption)) ?_); conv => whnf)
    | ((with_reducible refine optm_var (fv_strL (by assumption) (by assumption)) (fun s hs => ?_)); conv => whnf)
    | ((with_reducible refine forceA_of ?_); conv => whnf)
    | ((with_reducible refine forceL_pl (by assumption) ?_); conv => whnf)
    | ((with_reducible refine forceL_rpl (by assumption) ?_); conv => whnf)
    | fail)
  refine Go.Eng.Fn.frame [0, 1] (by rfl) (by exact ⟨rfl, ren_pl hp _ _ _, trivial⟩) (by simp [nodupb, V.okb, A.okb, Ob.okb, hp.2] <;> decide) (there37 room i L.length cap cs hp mk (fun b hb => ?_))
  by_cases h : 0 ≤ i ∧ i < L.length
  · obtain rfl : b = true := by rw [hb]; exact decide_eq_true h
    clear hb
    conv => whnf
    repeat' (first
      | ((with_reducible refine regx_of ?_ ?_); (· decide +kernel); conv => whnf)
      | ((with_reducible refine growx_pre ?_ ?_); (· exact ⟨_, rfl⟩); conv => whnf)
      | ((with_reducible refine needm_of ?_ ?_); (· first | assumption | exact decide_eq_true (by omega) | exact mkOK_of (by decide) | decide +kernel | (refine decide_eq_true ?_; simp (disch := omega) only [i64w]; omega)); conv => whnf)
      | ((with_reducible refine condm_pos ?_ ?_); (· assumption); conv => whnf)
      | ((with_reducible refine condm_neg ?_ ?_); (· assumption); conv => whnf)
      | ((with_reducible refine forceL_fv (by assumption) ?_); conv => whnf)
      | ((with_reducible refine forceL_rfv (by assumption) ?_); conv => whnf)
      | ((with_reducible refine forceNm_of ?_); conv => whnf)
      | ((with_reducible refine needm_of (fv_lenL (by assumption) (by assumption)) ?_); conv => whnf)
      | ((with_reducible refine optm_var (fv_strL (by assumption) (by assumption)) (fun s hs => ?_)); conv => whnf)
      | ((with_reducible refine forceA_of ?_); conv => whnf)
      | ((with_reducible refine forceL_pl (by assumption) ?_); conv => whnf)
      | ((with_reducible refine forceL_rpl (by assumption) ?_); conv => whnf)
      | fail)
    refine Go.Eng.Fn.frame [0, 1] (by rfl) (by exact ⟨rfl, ren_pl hp _ _ _, trivial⟩) (by simp [nodupb, V.okb, A.okb, Ob.okb, hp.2] <;> decide) (there37 room j L.length cap cs hp mk (fun b hb => ?_))
    by_cases h' : 0 ≤ j ∧ j < L.length
    · obtain rfl : b = true := by rw [hb]; exact decide_eq_true h'
      clear hb
      generalize hn : L.length = l at *
      obtain ⟨n, rfl⟩ : ∃ n, l = n + 1 := ⟨l - 1, by omega⟩
      conv => whnf
      repeat' (first
        | ((with_reducible refine regx_of ?_ ?_); (· decide +kernel); conv => whnf)
        | ((with_reducible refine growx_pre ?_ ?_); (· exact ⟨_, rfl⟩); conv => whnf)
        | ((with_reducible refine needm_of ?_ ?_); (· first | assumption | exact decide_eq_true (by omega) | exact mkOK_of (by decide) | decide +kernel | (refine decide_eq_true ?_; simp (disch := omega) only [i64w]; omega)); conv => whnf)
        | ((with_reducible refine condm_pos ?_ ?_); (· assumption); conv => whnf)
        | ((with_reducible refine condm_neg ?_ ?_); (· assumption); conv => whnf)
        | ((with_reducible refine forceL_fv (by assumption) ?_); conv => whnf)
        | ((with_reducible refine forceL_rfv (by assumption) ?_); conv => whnf)
        | ((with_reducible refine forceNm_of ?_); conv => whnf)
        | ((with_reducible refine needm_of (fv_lenL (by assumption) (by assumption)) ?_); conv => whnf)
        | ((with_reducible refine optm_var (fv_strL (by assumption) (by assumption)) (fun s hs => ?_)); conv => whnf)
        | ((with_reducible refine forceA_of ?_); conv => whnf)
        | ((with_reducible refine forceL_pl (by assumption) ?_); conv => whnf)
        | ((with_reducible refine forceL_rpl (by assumption) ?_); conv => whnf)
        | fail)
      refine needm_of (decide_eq_true (by rw [s69, hcl]; omega)) ?_
      conv => whnf
      repeat' (first
        | rw [← hz3]
        | rw [hrz]
        | rw [Nat.zero_mul Try.prog.types[69].size]
        | ((with_reducible refine regx_of ?_ ?_); (· decide +kernel); conv => whnf)
        | ((with_reducible refine growx_pre ?_ ?_); (· exact ⟨_, rfl⟩); conv => whnf)
        | ((with_reducible refine needm_of ?_ ?_); (· first | assumption | exact decide_eq_true (by omega) | exact mkOK_of (by decide) | decide +kernel | (refine decide_eq_true ?_; simp (disch := omega) only [i64w]; omega)); conv => whnf)
        | ((with_reducible refine condm_pos ?_ ?_); (· assumption); conv => whnf)
        | ((with_reducible refine condm_neg ?_ ?_); (· assumption); conv => whnf)
        | ((with_reducible refine forceL_fv (by assumption) ?_); conv => whnf)
        | ((with_reducible refine forceL_rfv (by assumption) ?_); conv => whnf)
        | ((with_reducible refine forceNm_of ?_); conv => whnf)
        | ((with_reducible refine needm_of (fv_lenL (by assumption) (by assumption)) ?_); conv => whnf)
        | ((with_reducible refine optm_var (fv_strL (by assumption) (by assumption)) (fun s hs => ?_)); conv => whnf)
        | ((with_reducible refine forceA_of ?_); conv => whnf)
        | ((with_reducible refine forceL_pl (by assumption) ?_); conv => whnf)
        | ((with_reducible refine forceL_rpl (by assumption) ?_); conv => whnf)
        | ((with_reducible refine needm_of ?_ ?_); (· first | (rw [hxl, hzl]; rfl) | (rw [hxl]; rfl)); conv => whnf)
        | ((with_reducible refine forceL_to (whole_of ?_) ?_); (· rw [hxl]; rfl); conv => whnf)
        | ((with_reducible refine forceL_to (store_all ?_) ?_); (· first | rw [hxl, hzl] | rfl); conv => whnf)
        | fail)
      refine needm_of (decide_eq_true (by rw [b69]; exact ⟨Nat.le_refl _, by omega, by omega⟩)) ?_
      intro cap' hcap'
      conv => whnf
      repeat' (first
        | rw [← hz3]
        | rw [hrz]
        | rw [Nat.zero_mul Try.prog.types[69].size]
        | ((with_reducible refine regx_of ?_ ?_); (· decide +kernel); conv => whnf)
        | ((with_reducible refine growx_pre ?_ ?_); (· exact ⟨_, rfl⟩); conv => whnf)
        | ((with_reducible refine needm_of ?_ ?_); (· first | assumption | exact decide_eq_true (by omega) | exact mkOK_of (by decide) | decide +kernel | (refine decide_eq_true ?_; simp (disch := omega) only [i64w]; omega)); conv => whnf)
        | ((with_reducible refine condm_pos ?_ ?_); (· assumption); conv => whnf)
        | ((with_reducible refine condm_neg ?_ ?_); (· assumption); conv => whnf)
        | ((with_reducible refine forceL_fv (by assumption) ?_); conv => whnf)
        | ((with_reducible refine forceL_rfv (by assumption) ?_); conv => whnf)
        | ((with_reducible refine forceNm_of ?_); conv => whnf)
        | ((with_reducible refine needm_of (fv_lenL (by assumption) (by assumption)) ?_); conv => whnf)
        | ((with_reducible refine optm_var (fv_strL (by assumption) (by assumption)) (fun s hs => ?_)); conv => whnf)
        | ((with_reducible refine forceA_of ?_); conv => whnf)
        | ((with_reducible refine forceL_pl (by assumption) ?_); conv => whnf)
        | ((with_reducible refine forceL_rpl (by assumption) ?_); conv => whnf)
        | ((with_reducible refine needm_of ?_ ?_); (· first | (rw [hxl, hzl]; rfl) | (rw [hxl]; rfl)); conv => whnf)
        | ((with_reducible refine forceL_to (whole_of ?_) ?_); (· rw [hxl]; rfl); conv => whnf)
        | ((with_reducible refine forceL_to (store_all ?_) ?_); (· first | rw [hxl, hzl] | rfl); conv => whnf)
        | fail)
      have hz4 : repl z3 ((cap' - (n + 1)) * 3) = fls (List.replicate (cap' - (n + 1)) z0) := by rw [hz3]; exact fls_zeros _
      refine forceL_var (l' := fls (L ++ List.replicate (cap' - (n + 1)) z0)) (by rw [s69]; simp only [Nat.zero_add]; rw [hz4, List.drop_zero, ← hn, fls_take hcs _ (by rw [List.length_append]; omega), List.take_left' rfl, fls_append]; rfl) (fun bs hbs => ?_)
      have hbp := Pl.fls hbs
      have hbl : bs.length = cap' * 3 := by rw [hbs, fls_length, List.length_append, List.length_replicate]; congr 1; omega
      have hi' : i.toNat < L.length := by omega
      have hj' : j.toNat < L.length := by omega
      obtain ⟨xi, hxi⟩ : ∃ x, L[i.toNat]? = some x := ⟨_, List.getElem?_eq_getElem hi'⟩
      obtain ⟨xj, hxj⟩ : ∃ x, L[j.toNat]? = some x := ⟨_, List.getElem?_eq_getElem hj'⟩
      have hri := fls_at hcs (i := i.toNat) (x := xi) (by rw [List.getElem?_append_left hi']; exact hxi) (o := 0 + i.toNat * Try.prog.types[69].size) (m := 0 + i.toNat * Try.prog.types[69].size + Try.prog.types[69].size) (by rw [s69]; omega) (by rw [s69]; omega)
      have hrj := fls_at hcs (i := j.toNat) (x := xj) (by rw [List.getElem?_append_left hj']; exact hxj) (o := 0 + j.toNat * Try.prog.types[69].size) (m := 0 + j.toNat * Try.prog.types[69].size + Try.prog.types[69].size) (by rw [s69]; omega) (by rw [s69]; omega)
      obtain ⟨ri, eri⟩ : ∃ r, r = xi.row := ⟨_, rfl⟩
      obtain ⟨rj, erj⟩ : ∃ r, r = xj.row := ⟨_, rfl⟩
      rw [← eri] at hri
      rw [← erj] at hrj
      have hpi : Pl ri := by rw [eri]; exact ⟨fun _ => rfl, fun _ => rfl⟩
      have hpj : Pl rj := by rw [erj]; exact ⟨fun _ => rfl, fun _ => rfl⟩
      have hli : ri.length = 3 := by rw [eri]; rfl
      have hlj : rj.length = 3 := by rw [erj]; rfl
      have bi : decide (0 ≤ i ∧ i < (((0 + (n + 1) : Nat)) : Int)) = true := decide_eq_true (by omega)
      have bj : decide (0 ≤ j ∧ j < (((0 + (n + 1) : Nat)) : Int)) = true := decide_eq_true (by omega)
      conv => whnf
      repeat' (first
        | rw [← hz3]
        | rw [hrz]
        | rw [Nat.zero_mul Try.prog.types[69].size]
        | ((with_reducible refine regx_of ?_ ?_); (· decide +kernel); conv => whnf)
        | ((with_reducible refine growx_pre ?_ ?_); (· exact ⟨_, rfl⟩); conv => whnf)
        | ((with_reducible refine needm_of ?_ ?_); (· first | assumption | exact decide_eq_true (by omega) | exact mkOK_of (by decide) | decide +kernel | (refine decide_eq_true ?_; simp (disch := omega) only [i64w]; omega)); conv => whnf)
        | ((with_reducible refine condm_pos ?_ ?_); (· assumption); conv => whnf)
        | ((with_reducible refine condm_neg ?_ ?_); (· assumption); conv => whnf)
        | ((with_reducible refine forceL_fv (by assumption) ?_); conv => whnf)
        | ((with_reducible refine forceL_rfv (by assumption) ?_); conv => whnf)
        | ((with_reducible refine forceNm_of ?_); conv => whnf)
        | ((with_reducible refine needm_of (fv_lenL (by assumption) (by assumption)) ?_); conv => whnf)
        | ((with_reducible refine optm_var (fv_strL (by assumption) (by assumption)) (fun s hs => ?_)); conv => whnf)
        | ((with_reducible refine forceA_of ?_); conv => whnf)
        | ((with_reducible refine forceL_pl (by assumption) ?_); conv => whnf)
        | ((with_reducible refine forceL_rpl (by assumption) ?_); conv => whnf)
        | ((with_reducible refine needm_of ?_ ?_); (· first | (rw [hxl, hzl]; rfl) | (rw [hxl]; rfl)); conv => whnf)
        | ((with_reducible refine forceL_to (whole_of ?_) ?_); (· rw [hxl]; rfl); conv => whnf)
        | ((with_reducible refine forceL_to (store_all ?_) ?_); (· first | rw [hxl, hzl] | rfl); conv => whnf)
        | fail)
      refine needm_of (decide_eq_true (by rw [s69, hcl]; omega)) ?_
      conv => whnf
      refine forceL_to hrj ?_
      conv => whnf
      repeat' (first
        | rw [← hz3]
        | rw [hrz]
        | rw [Nat.zero_mul Try.prog.types[69].size]
        | ((with_reducible refine regx_of ?_ ?_); (· decide +kernel); conv => whnf)
        | ((with_reducible refine growx_pre ?_ ?_); (· exact ⟨_, rfl⟩); conv => whnf)
        | ((with_reducible refine needm_of ?_ ?_); (· first | assumption | exact decide_eq_true (by omega) | exact mkOK_of (by decide) | decide +kernel | (refine decide_eq_true ?_; simp (disch := omega) only [i64w]; omega)); conv => whnf)
        | ((with_reducible refine condm_pos ?_ ?_); (· assumption); conv => whnf)
        | ((with_reducible refine condm_neg ?_ ?_); (· assumption); conv => whnf)
        | ((with_reducible refine forceL_fv (by assumption) ?_); conv => whnf)
        | ((with_reducible refine forceL_rfv (by assumption) ?_); conv => whnf)
        | ((with_reducible refine forceNm_of ?_); conv => whnf)
        | ((with_reducible refine needm_of (fv_lenL (by assumption) (by assumption)) ?_); conv => whnf)
        | ((with_reducible refine optm_var (fv_strL (by assumption) (by assumption)) (fun s hs => ?_)); conv => whnf)
        | ((with_reducible refine forceA_of ?_); conv => whnf)
        | ((with_reducible refine forceL_pl (by assumption) ?_); conv => whnf)
        | ((with_reducible refine forceL_rpl (by assumption) ?_); conv => whnf)
        | ((with_reducible refine needm_of ?_ ?_); (· first | (rw [hxl, hzl]; rfl) | (rw [hxl]; rfl)); conv => whnf)
        | ((with_reducible refine forceL_to (whole_of ?_) ?_); (· rw [hxl]; rfl); conv => whnf)
        | ((with_reducible refine forceL_to (store_all ?_) ?_); (· first | rw [hxl, hzl] | rfl); conv => whnf)
        | fail)
      refine needm_of (Bool.and_eq_true_iff.2 ⟨by rw [hlj]; rfl, decide_eq_true (by rw [s69, hlj, hbl]; omega)⟩) ?_
      conv => whnf
      repeat' (first
        | rw [← hz3]
        | rw [hrz]
        | rw [Nat.zero_mul Try.prog.types[69].size]
        | ((with_reducible refine regx_of ?_ ?_); (· decide +kernel); conv => whnf)
        | ((with_reducible refine growx_pre ?_ ?_); (· exact ⟨_, rfl⟩); conv => whnf)
        | ((with_reducible refine needm_of ?_ ?_); (· first | assumption | exact decide_eq_true (by omega) | exact mkOK_of (by decide) | decide +kernel | (refine decide_eq_true ?_; simp (disch := omega) only [i64w]; omega)); conv => whnf)
        | ((with_reducible refine condm_pos ?_ ?_); (· assumption); conv => whnf)
        | ((with_reducible refine condm_neg ?_ ?_); (· assumption); conv => whnf)
        | ((with_reducible refine forceL_fv (by assumption) ?_); conv => whnf)
        | ((with_reducible refine forceL_rfv (by assumption) ?_); conv => whnf)
        | ((with_reducible refine forceNm_of ?_); conv => whnf)
        | ((with_reducible refine needm_of (fv_lenL (by assumption) (by assumption)) ?_); conv => whnf)
        | ((with_reducible refine optm_var (fv_strL (by assumption) (by assumption)) (fun s hs => ?_)); conv => whnf)
        | ((with_reducible refine forceA_of ?_); conv => whnf)
        | ((with_reducible refine forceL_pl (by assumption) ?_); conv => whnf)
        | ((with_reducible refine forceL_rpl (by assumption) ?_); conv => whnf)
        | ((with_reducible refine needm_of ?_ ?_); (· first | (rw [hxl, hzl]; rfl) | (rw [hxl]; rfl)); conv => whnf)
        | ((with_reducible refine forceL_to (whole_of ?_) ?_); (· rw [hxl]; rfl); conv => whnf)
        | ((with_reducible refine forceL_to (store_all ?_) ?_); (· first | rw [hxl, hzl] | rfl); conv => whnf)
        | fail)
      refine forceL_var (l' := fls ((L ++ List.replicate (cap' - (n + 1)) z0).set i.toNat xj)) (by rw [erj]; exact fls_put hbs (by rw [List.length_append]; omega) xj (by rw [s69]; omega)) (fun bs2 hbs2 => ?_)
      have hbp2 := Pl.fls hbs2
      have hbl2 : bs2.length = cap' * 3 := by rw [hbs2, fls_length, List.length_set, List.length_append, List.length_replicate]; congr 1; omega
      conv => whnf
      repeat' (first
        | rw [← hz3]
        | rw [hrz]
        | rw [Nat.zero_mul Try.prog.types[69].size]
        | ((with_reducible refine regx_of ?_ ?_); (· decide +kernel); conv => whnf)
        | ((with_reducible refine growx_pre ?_ ?_); (· exact ⟨_, rfl⟩); conv => whnf)
        | ((with_reducible refine needm_of ?_ ?_); (· first | assumption | exact decide_eq_true (by omega) | exact mkOK_of (by decide) | decide +kernel | (refine decide_eq_true ?_; simp (disch := omega) only [i64w]; omega)); conv => whnf)
        | ((with_reducible refine condm_pos ?_ ?_); (· assumption); conv => whnf)
        | ((with_reducible refine condm_neg ?_ ?_); (· assumption); conv => whnf)
        | ((with_reducible refine forceL_fv (by assumption) ?_); conv => whnf)
        | ((with_reducible refine forceL_rfv (by assumption) ?_); conv => whnf)
        | ((with_reducible refine forceNm_of ?_); conv => whnf)
        | ((with_reducible refine needm_of (fv_lenL (by assumption) (by assumption)) ?_); conv => whnf)
        | ((with_reducible refine optm_var (fv_strL (by assumption) (by assumption)) (fun s hs => ?_)); conv => whnf)
        | ((with_reducible refine forceA_of ?_); conv => whnf)
        | ((with_reducible refine forceL_pl (by assumption) ?_); conv => whnf)
        | ((with_reducible refine forceL_rpl (by assumption) ?_); conv => whnf)
        | ((with_reducible refine needm_of ?_ ?_); (· first | (rw [hxl, hzl]; rfl) | (rw [hxl]; rfl)); conv => whnf)
        | ((with_reducible refine forceL_to (whole_of ?_) ?_); (· rw [hxl]; rfl); conv => whnf)
        | ((with_reducible refine forceL_to (store_all ?_) ?_); (· first | rw [hxl, hzl] | rfl); conv => whnf)
        | fail)
      refine needm_of (decide_eq_true (by rw [s69, hcl]; omega)) ?_
      conv => whnf
      refine forceL_to hri ?_
      conv => whnf
      repeat' (first
        | rw [← hz3]
        | rw [hrz]
        | rw [Nat.zero_mul Try.prog.types[69].size]
        | ((with_reducible refine regx_of ?_ ?_); (· decide +kernel); conv => whnf)
        | ((with_reducible refine growx_pre ?_ ?_); (· exact ⟨_, rfl⟩); conv => whnf)
        | ((with_reducible refine needm_of ?_ ?_); (· first | assumption | exact decide_eq_true (by omega) | exact mkOK_of (by decide) | decide +kernel | (refine decide_eq_true ?_; simp (disch := omega) only [i64w]; omega)); conv => whnf)
        | ((with_reducible refine condm_pos ?_ ?_); (· assumption); conv => whnf)
        | ((with_reducible refine condm_neg ?_ ?_); (· assumption); conv => whnf)
        | ((with_reducible refine forceL_fv (by assumption) ?_); conv => whnf)
        | ((with_reducible refine forceL_rfv (by assumption) ?_); conv => whnf)
        | ((with_reducible refine forceNm_of ?_); conv => whnf)
        | ((with_reducible refine needm_of (fv_lenL (by assumption) (by assumption)) ?_); conv => whnf)
        | ((with_reducible refine optm_var (fv_strL (by assumption) (by assumption)) (fun s hs => ?_)); conv => whnf)
        | ((with_reducible refine forceA_of ?_); conv => whnf)
        | ((with_reducible refine forceL_pl (by assumption) ?_); conv => whnf)
        | ((with_reducible refine forceL_rpl (by assumption) ?_); conv => whnf)
        | ((with_reducible refine needm_of ?_ ?_); (· first | (rw [hxl, hzl]; rfl) | (rw [hxl]; rfl)); conv => whnf)
        | ((with_reducible refine forceL_to (whole_of ?_) ?_); (· rw [hxl]; rfl); conv => whnf)
        | ((with_reducible refine forceL_to (store_all ?_) ?_); (· first | rw [hxl, hzl] | rfl); conv => whnf)
        | fail)
      refine needm_of (Bool.and_eq_true_iff.2 ⟨by rw [hli]; rfl, decide_eq_true (by rw [s69, hli, hbl2]; omega)⟩) ?_
      conv => whnf
      repeat' (first
        | rw [← hz3]
        | rw [hrz]
        | rw [Nat.zero_mul Try.prog.types[69].size]
        | ((with_reducible refine regx_of ?_ ?_); (· decide +kernel); conv => whnf)
        | ((with_reducible refine growx_pre ?_ ?_); (· exact ⟨_, rfl⟩); conv => whnf)
        | ((with_reducible refine needm_of ?_ ?_); (· first | assumption | exact decide_eq_true (by omega) | exact mkOK_of (by decide) | decide +kernel | (refine decide_eq_true ?_; simp (disch := omega) only [i64w]; omega)); conv => whnf)
        | ((with_reducible refine condm_pos ?_ ?_); (· assumption); conv => whnf)
        | ((with_reducible refine condm_neg ?_ ?_); (· assumption); conv => whnf)
        | ((with_reducible refine forceL_fv (by assumption) ?_); conv => whnf)
        | ((with_reducible refine forceL_rfv (by assumption) ?_); conv => whnf)
        | ((with_reducible refine forceNm_of ?_); conv => whnf)
        | ((with_reducible refine needm_of (fv_lenL (by assumption) (by assumption)) ?_); conv => whnf)
        | ((with_reducible refine optm_var (fv_strL (by assumption) (by assumption)) (fun s hs => ?_)); conv => whnf)
        | ((with_reducible refine forceA_of ?_); conv => whnf)
        | ((with_reducible refine forceL_pl (by assumption) ?_); conv => whnf)
        | ((with_reducible refine forceL_rpl (by assumption) ?_); conv => whnf)
        | ((with_reducible refine needm_of ?_ ?_); (· first | (rw [hxl, hzl]; rfl) | (rw [hxl]; rfl)); conv => whnf)
        | ((with_reducible refine forceL_to (whole_of ?_) ?_); (· rw [hxl]; rfl); conv => whnf)
        | ((with_reducible refine forceL_to (store_all ?_) ?_); (· first | rw [hxl, hzl] | rfl); conv => whnf)
        | fail)
      refine forceL_var (l' := fls (((L ++ List.replicate (cap' - (n + 1)) z0).set i.toNat xj).set j.toNat xi)) (by rw [eri]; exact fls_put hbs2 (by rw [List.length_set, List.length_append]; omega) xi (by rw [s69]; omega)) (fun bs3 hbs3 => ?_)
      have hbp3 := Pl.fls hbs3
      have hk := hK1 xi xj hxi hxj h h' (List.replicate (cap' - (n + 1)) z0) bs3 cap' (by rw [hbs3, List.set_append_left _ _ hi', List.set_append_left _ _ (by rw [List.length_set]; exact hj')]) (by rw [List.length_replicate]; omega)
      conv => whnf
      repeat' (first
        | rw [← hz3]
        | rw [hrz]
        | rw [Nat.zero_mul Try.prog.types[69].size]
        | ((with_reducible refine regx_of ?_ ?_); (· decide +kernel); conv => whnf)
        | ((with_reducible refine growx_pre ?_ ?_); (· exact ⟨_, rfl⟩); conv => whnf)
        | ((with_reducible refine needm_of ?_ ?_); (· first | assumption | exact decide_eq_true (by omega) | exact mkOK_of (by decide) | decide +kernel | (refine decide_eq_true ?_; simp (disch := omega) only [i64w]; omega)); conv => whnf)
        | ((with_reducible refine condm_pos ?_ ?_); (· assumption); conv => whnf)
        | ((with_reducible refine condm_neg ?_ ?_); (· assumption); conv => whnf)
        | ((with_reducible refine forceL_fv (by assumption) ?_); conv => whnf)
        | ((with_reducible refine forceL_rfv (by assumption) ?_); conv => whnf)
        | ((with_reducible refine forceNm_of ?_); conv => whnf)
        | ((with_reducible refine needm_of (fv_lenL (by assumption) (by assumption)) ?_); conv => whnf)
        | ((with_reducible refine optm_var (fv_strL (by assumption) (by assumption)) (fun s hs => ?_)); conv => whnf)
        | ((with_reducible refine forceA_of ?_); conv => whnf)
        | ((with_reducible refine forceL_pl (by assumption) ?_); conv => whnf)
        | ((with_reducible refine forceL_rpl (by assumption) ?_); conv => whnf)
        | ((with_reducible refine needm_of ?_ ?_); (· first | (rw [hxl, hzl]; rfl) | (rw [hxl]; rfl)); conv => whnf)
        | ((with_reducible refine forceL_to (whole_of ?_) ?_); (· rw [hxl]; rfl); conv => whnf)
        | ((with_reducible refine forceL_to (store_all ?_) ?_); (· first | rw [hxl, hzl] | rfl); conv => whnf)
        | fail)
      exact keepOf (v₀ := .a (.int .i64 0)) [.cells [.int .i64 room, .slc 2 0 (n + 1) cap'] 47 false, .cells cs 69 mk, .cells bs3 69 false] [0, 1, 3] (by rfl) ⟨by rw [Nat.zero_add (n + 1)]; rfl, ren_pl hp _ _ _, ren_pl hbp3 _ _ _, trivial⟩ (by simp [nodupb, baseb, Ob.okb, frmOk, V.okb, A.okb, hp.2, hbp3.2] <;> decide) hk
    · obtain rfl : b = false := by rw [hb]; exact decide_eq_false h'
      conv => whnf
      repeat' (first
        | ((with_reducible refine regx_of ?_ ?_); (· decide +kernel); conv => whnf)
        | ((with_reducible refine growx_pre ?_ ?_); (· exact ⟨_, rfl⟩); conv => whnf)
        | ((with_reducible refine needm_of ?_ ?_); (· first | assumption | exact decide_eq_true (by omega) | exact mkOK_of (by decide) | decide +kernel | (refine decide_eq_true ?_; simp (disch := omega) only [i64w]; omega)); conv => whnf)
        | ((with_reducible refine condm_pos ?_ ?_); (· assumption); conv => whnf)
        | ((with_reducible refine condm_neg ?_ ?_); (· assumption); conv => whnf)
        | ((with_reducible refine forceL_fv (by assumption) ?_); conv => whnf)
        | ((with_reducible refine forceL_rfv (by assumption) ?_); conv => whnf)
        | ((with_reducible refine forceNm_of ?_); conv => whnf)
        | ((with_reducible refine needm_of (fv_lenL (by assumption) (by assumption)) ?_); conv => whnf)
        | ((with_reducible refine optm_var (fv_strL (by assumption) (by assumption)) (fun s hs => ?_)); conv => whnf)
        | ((with_reducible refine forceA_of ?_); conv => whnf)
        | ((with_reducible refine forceL_pl (by assumption) ?_); conv => whnf)
        | ((with_reducible refine forceL_rpl (by assumption) ?_); conv => whnf)
        | fail)
      exact keepOf (v₀ := .a (.int .i64 220)) [.cells [.int .i64 room, .slc 1 0 L.length cap] 47 false, .cells cs 69 mk] [0, 1] rfl ⟨rfl, ren_pl hp _ _ _, trivial⟩ (by simp [nodupb, baseb, Ob.okb, frmOk, V.okb, A.okb, hp.2] <;> decide) (hK0 (fun h2 => h' h2.2))
  · obtain rfl : b = false := by rw [hb]; exact decide_eq_false h
    conv => whnf
    repeat' (first
      | ((with_reducible refine regx_of ?_ ?_); (· decide +kernel); conv => whnf)
      | ((with_reducible refine growx_pre ?_ ?_); (· exact ⟨_, rfl⟩); conv => whnf)
      | ((with_reducible refine needm_of ?_ ?_); (· first | assumption | exact decide_eq_true (by omega) | exact mkOK_of (by decide) | decide +kernel | (refine decide_eq_true ?_; simp (disch := omega) only [i64w]; omega)); conv => whnf)
      | ((with_reducible refine condm_pos ?_ ?_); (· assumption); conv => whnf)
      | ((with_reducible refine condm_neg ?_ ?_); (· assumption); conv => whnf)
      | ((with_reducible refine forceL_fv (by assumption) ?_); conv => whnf)
      | ((with_reducible refine forceL_rfv (by assumption) ?_); conv => whnf)
      | ((with_reducible refine forceNm_of ?_); conv => whnf)
      | ((with_reducible refine needm_of (fv_lenL (by assumption) (by assumption)) ?_); conv => whnf)
      | ((with_reducible refine optm_var (fv_strL (by assumption) (by assumption)) (fun s hs => ?_)); conv => whnf)
      | ((with_reducible refine forceA_of ?_); conv => whnf)
      | ((with_reducible refine forceL_pl (by assumption) ?_); conv => whnf)
      | ((with_reducible refine forceL_rpl (by assumption) ?_); conv => whnf)
      | fail)
    exact keepOf (v₀ := .a (.int .i64 220)) [.cells [.int .i64 room, .slc 1 0 L.length cap] 47 false, .cells cs 69 mk] [0, 1] rfl ⟨rfl, ren_pl hp _ _ _, trivial⟩ (by simp [nodupb, baseb, Ob.okb, frmOk, V.okb, A.okb, hp.2] <;> decide) (hK0 (fun h2 => h h2.1))
end
end Go.Proofs.Ytkggpkgnkppceaa.LK
