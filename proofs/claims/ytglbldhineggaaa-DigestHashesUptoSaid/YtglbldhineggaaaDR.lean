import Derived.Test.YtglbldhineggaaaDQ
namespace Go.Proofs.Ytglbldhineggaaa.DG
open Go.Eng
set_option maxRecDepth 100000
section
variable {ro : Addr → A → Prop}
set_option maxHeartbeats 400000 in
theorem start23 {K : V → Hp → Prop} (hK : ∀ ks, ks = [A.int .u32 1779033703, .int .u32 3144134277, .int .u32 1013904242, .int .u32 2773480762, .int .u32 1359893119, .int .u32 2600822924, .int .u32 528734635, .int .u32 1541459225] → K (.g ks) []) : Go.Eng.Fn Try.prog ro 23 [] [] K := by
  refine Go.Eng.Fn.weak ?_
  refine Go.Eng.Fn.of_code (gOf []) Try.func23 rfl (Nat.le_of_ble_eq_true rfl) ?_
  conv => whnf
  exact keepOf (v₀ := .g _) [] [] rfl trivial rfl (hK _ rfl)
set_option maxHeartbeats 400000 in
theorem start24 {K : V → Hp → Prop} (hK : ∀ ks, ks = [A.int .u32 1779033703, .int .u32 3144134277, .int .u32 1013904242, .int .u32 2773480762, .int .u32 1359893119, .int .u32 2600822924, .int .u32 528734635, .int .u32 1541459225] → K (.g ks) []) : Go.Eng.Fn Try.prog ro 24 [] [] K := by
  refine Go.Eng.Fn.weak ?_
  refine Go.Eng.Fn.of_code (gOf []) Try.func24 rfl (Nat.le_of_ble_eq_true rfl) ?_
  conv => whnf
  exact keepOf (v₀ := .g _) [] [] rfl trivial rfl (hK _ rfl)
set_option maxHeartbeats 1000000 in
theorem kept22 (L y z : List UInt8) (cs cs1 : List A) (n cap cap1 : Nat) (hcs : cs = u8s (L ++ (marks 66 ++ y))) (hcs1 : cs1 = u8s (L ++ z)) (hn : n = L.length) (hcap : cap = n + 66 + y.length) (hbig : n + 66 ≤ 140737488355328) {K : V → Hp → Prop}
    (hK : K (.a (.bool true)) [.cells cs 5 false, .cells cs1 5 false]) :
    Go.Eng.Fn Try.prog ro 22 [.a (.slc 0 0 n cap), .a (.slc 1 0 n cap1)] [.cells cs 5 false, .cells cs1 5 false] K := by
  refine Go.Eng.Fn.weak ?_
  refine Go.Eng.Fn.of 2 (gOf []) rfl Try.func22 rfl (Nat.le_of_ble_eq_true rfl) ?_
  conv => whnf
  repeat' (first
    | ((with_reducible refine regx_of ?_ ?_); (· decide +kernel); conv => whnf)
    | ((with_reducible refine growx_pre ?_ ?_); (· exact ⟨_, rfl⟩); conv => whnf)
    | ((with_reducible refine needm_of ?_ ?_); (· first | assumption | exact decide_eq_true (by omega) | exact mkOK_of (by decide) | decide +kernel | (refine decide_eq_true ?_; simp (disch := omega) only [i64w]; omega)); conv => whnf)
    | ((with_reducible refine condm_pos ?_ ?_); (· assumption); conv => whnf)
    | ((with_reducible refine condm_neg ?_ ?_); (· assumption); conv => whnf)
    | ((with_reducible refine forceL_fv (by assumption) ?_); conv => whnf)
    | ((with_reducible refine forceL_rfv (by assumption) ?_); conv => whnf)
    | ((with_reducible refine forceNm_of ?_); conv => whnf)
    | ((with_reducible refine needm_of (fv_lenL (by assumption) (by assumption)) ?_); conv => whnf)
    | ((with_reducible refine optm_var (fv_strL (by assumption) (by assumption)) (fun s hs => ?_)); conv => whnf)
    | ((with_reducible refine forceA_of ?_); conv => whnf)
    | ((with_reducible refine forceL_fw (by assumption) ?_); conv => whnf)
    | ((with_reducible refine forceL_rfw (by assumption) ?_); conv => whnf)
    | ((with_reducible refine forceL_fl (by assumption) ?_); conv => whnf)
    | ((with_reducible refine forceL_rfl (by assumption) ?_); conv => whnf)
    | fail)
  refine condm_neg (by simp [*]) ?_
  conv => whnf
  repeat' (first
    | ((with_reducible refine regx_of ?_ ?_); (· decide +kernel); conv => whnf)
    | ((with_reducible refine growx_pre ?_ ?_); (· exact ⟨_, rfl⟩); conv => whnf)
    | ((with_reducible refine needm_of ?_ ?_); (· first | assumption | exact decide_eq_true (by omega) | exact mkOK_of (by decide) | decide +kernel | (refine decide_eq_true ?_; simp (disch := omega) only [i64w]; omega)); conv => whnf)
    | ((with_reducible refine condm_pos ?_ ?_); (· assumption); conv => whnf)
    | ((with_reducible refine condm_neg ?_ ?_); (· assumption); conv => whnf)
    | ((with_reducible refine forceL_fv (by assumption) ?_); conv => whnf)
    | ((with_reducible refine forceL_rfv (by assumption) ?_); conv => whnf)
    | ((with_reducible refine forceNm_of ?_); conv => whnf)
    | ((with_reducible refine needm_of (fv_lenL (by assumption) (by assumption)) ?_); conv => whnf)
    | ((with_reducible refine optm_var (fv_strL (by assumption) (by assumption)) (fun s hs => ?_)); conv => whnf)
    | ((with_reducible refine forceA_of ?_); conv => whnf)
    | ((with_reducible refine forceL_fw (by assumption) ?_); conv => whnf)
    | ((with_reducible refine forceL_rfw (by assumption) ?_); conv => whnf)
    | ((with_reducible refine forceL_fl (by assumption) ?_); conv => whnf)
    | ((with_reducible refine forceL_rfl (by assumption) ?_); conv => whnf)
    | fail)
  have e66 : IntKind.i64.wrap (↑n + 66) = ((n + 66 : Nat) : Int) := by rw [i64w (by omega) (by omega)]; rfl
  rw [e66]
  repeat' (first
    | ((with_reducible refine regx_of ?_ ?_); (· decide +kernel); conv => whnf)
    | ((with_reducible refine growx_pre ?_ ?_); (· exact ⟨_, rfl⟩); conv => whnf)
    | ((with_reducible refine needm_of ?_ ?_); (· first | assumption | exact decide_eq_true (by omega) | exact mkOK_of (by decide) | decide +kernel | (refine decide_eq_true ?_; simp (disch := omega) only [i64w]; omega)); conv => whnf)
    | ((with_reducible refine condm_pos ?_ ?_); (· assumption); conv => whnf)
    | ((with_reducible refine condm_neg ?_ ?_); (· assumption); conv => whnf)
    | ((with_reducible refine forceL_fv (by assumption) ?_); conv => whnf)
    | ((with_reducible refine forceL_rfv (by assumption) ?_); conv => whnf)
    | ((with_reducible refine forceNm_of ?_); conv => whnf)
    | ((with_reducible refine needm_of (fv_lenL (by assumption) (by assumption)) ?_); conv => whnf)
    | ((with_reducible refine optm_var (fv_strL (by assumption) (by assumption)) (fun s hs => ?_)); conv => whnf)
    | ((with_reducible refine forceA_of ?_); conv => whnf)
    | ((with_reducible refine forceL_fw (by assumption) ?_); conv => whnf)
    | ((with_reducible refine forceL_rfw (by assumption) ?_); conv => whnf)
    | ((with_reducible refine forceL_fl (by assumption) ?_); conv => whnf)
    | ((with_reducible refine forceL_rfl (by assumption) ?_); conv => whnf)
    | fail)
  have e0 : (if cap = 0 then 0 else 0 + 0 * Try.prog.types[5].size) = 0 := by split <;> simp
  rw [e0]
  refine loopx_of (fun m F H => ∃ j : Nat, j ≤ 66 ∧ m = 66 - j ∧ F = [(1, .a (.slc 1 0 n cap1)), (5, .a (.slc 0 0 (n + 66) cap)), (6, .a (.int .i64 j))] ∧ H = [.cells cs 5 false, .cells cs1 5 false]) 66 ?_ ?_
  · refine Into.weak [0, 1] _ _ ⟨0, by omega, rfl, rfl, rfl⟩ ⟨rfl, rfl, rfl, trivial⟩ ⟨ren_fv hcs _ _ _, ren_fv hcs1 _ _ _, trivial⟩ ?_
    simp [nodupb, baseb, Ob.okb, frmOk, V.okb, A.okb, all_fv hcs, all_fv hcs1] <;> decide
  · rintro m F H ⟨j, hj, rfl, rfl, rfl⟩
    conv => whnf
    refine condm_of (fun h => ?_) (fun h => ?_)
    · have hj66 : j < 66 := by have := of_decide_eq_true h; omega
      have e4 : IntKind.i64.wrap (↑j + 1) = ((j + 1 : Nat) : Int) := by rw [i64w (by omega) (by omega)]; rfl
      have e5 : IntKind.u8.wrap (IntKind.i64.wrap (150 + ↑j)) = ((UInt8.ofNat (150 + j)).toNat : Int) := by
        rw [i64w (by omega) (by omega), wrap8, show (150 + (j : Int)) = ((150 + j : Nat) : Int) by omega, b8_ofNat]
      have e6 : IntKind.i64.wrap (↑n + ↑j) = ((n + j : Nat) : Int) := by rw [i64w (by omega) (by omega)]; rfl
      have hg : cs[0 + ((n + j : Nat) : Int).toNat * Try.prog.types[5].size]? = some (.int .u8 ((UInt8.ofNat (150 + j)).toNat : Int)) := by
        have hlt : n + j < (L ++ (marks 66 ++ y)).length := by rw [List.length_append, List.length_append, marks_length]; omega
        rw [s5, Int.toNat_natCast, Nat.mul_one, Nat.zero_add, fv_get hcs hlt]
        have : (L ++ (marks 66 ++ y))[n + j]? = some (UInt8.ofNat (150 + j)) := by
          rw [List.getElem?_append_right (by omega), show n + j - L.length = j by omega, List.getElem?_append_left (by rw [marks_length]; omega), marks_get hj66]
        rw [List.getElem?_eq_getElem hlt] at this
        injection this with this
        rw [this]
      generalize UInt8.ofNat (150 + j) = b at *
      conv => whnf
      rw [e6]
      repeat' (first
        | ((with_reducible refine optm_of hg ?_); conv => whnf)
        | ((with_reducible refine regx_of ?_ ?_); (· decide +kernel); conv => whnf)
        | ((with_reducible refine growx_pre ?_ ?_); (· exact ⟨_, rfl⟩); conv => whnf)
        | ((with_reducible refine needm_of ?_ ?_); (· first | assumption | exact decide_eq_true (by omega) | exact mkOK_of (by decide) | decide +kernel | (refine decide_eq_true ?_; simp (disch := omega) only [i64w]; omega)); conv => whnf)
        | ((with_reducible refine condm_pos ?_ ?_); (· assumption); conv => whnf)
        | ((with_reducible refine condm_neg ?_ ?_); (· assumption); conv => whnf)
        | ((with_reducible refine forceL_fv (by assumption) ?_); conv => whnf)
        | ((with_reducible refine forceL_rfv (by assumption) ?_); conv => whnf)
        | ((with_reducible refine forceNm_of ?_); conv => whnf)
        | ((with_reducible refine needm_of (fv_lenL (by assumption) (by assumption)) ?_); conv => whnf)
        | ((with_reducible refine optm_var (fv_strL (by assumption) (by assumption)) (fun s hs => ?_)); conv => whnf)
        | ((with_reducible refine forceA_of ?_); conv => whnf)
        | ((with_reducible refine forceL_fw (by assumption) ?_); conv => whnf)
        | ((with_reducible refine forceL_rfw (by assumption) ?_); conv => whnf)
        | ((with_reducible refine forceL_fl (by assumption) ?_); conv => whnf)
        | ((with_reducible refine forceL_rfl (by assumption) ?_); conv => whnf)
        | fail)
      refine condm_neg (by rw [e5]; simp) ?_
      conv => whnf
      repeat' (first
        | ((with_reducible refine regx_of ?_ ?_); (· decide +kernel); conv => whnf)
        | ((with_reducible refine growx_pre ?_ ?_); (· exact ⟨_, rfl⟩); conv => whnf)
        | ((with_reducible refine needm_of ?_ ?_); (· first | assumption | exact decide_eq_true (by omega) | exact mkOK_of (by decide) | decide +kernel | (refine decide_eq_true ?_; simp (disch := omega) only [i64w]; omega)); conv => whnf)
        | ((with_reducible refine condm_pos ?_ ?_); (· assumption); conv => whnf)
        | ((with_reducible refine condm_neg ?_ ?_); (· assumption); conv => whnf)
        | ((with_reducible refine forceL_fv (by assumption) ?_); conv => whnf)
        | ((with_reducible refine forceL_rfv (by assumption) ?_); conv => whnf)
        | ((with_reducible refine forceNm_of ?_); conv => whnf)
        | ((with_reducible refine needm_of (fv_lenL (by assumption) (by assumption)) ?_); conv => whnf)
        | ((with_reducible refine optm_var (fv_strL (by assumption) (by assumption)) (fun s hs => ?_)); conv => whnf)
        | ((with_reducible refine forceA_of ?_); conv => whnf)
        | ((with_reducible refine forceL_fw (by assumption) ?_); conv => whnf)
        | ((with_reducible refine forceL_rfw (by assumption) ?_); conv => whnf)
        | ((with_reducible refine forceL_fl (by assumption) ?_); conv => whnf)
        | ((with_reducible refine forceL_rfl (by assumption) ?_); conv => whnf)
        | fail)
      refine ⟨66 - (j + 1), by omega, Into.weak [0, 1] _ _ ⟨j + 1, by omega, rfl, rfl, rfl⟩ ⟨rfl, rfl, congrArg (fun z => some (V.a (.int .i64 z))) e4, trivial⟩ ⟨ren_fv hcs _ _ _, ren_fv hcs1 _ _ _, trivial⟩ ?_⟩
      simp [nodupb, baseb, Ob.okb, frmOk, V.okb, A.okb, all_fv hcs, all_fv hcs1] <;> decide
    · conv => whnf
      exact keepOf [.cells cs 5 false, .cells cs1 5 false] [0, 1] rfl ⟨ren_fv hcs _ _ _, ren_fv hcs1 _ _ _, trivial⟩ (by simp [nodupb, baseb, Ob.okb, frmOk, V.okb, A.okb, all_fv hcs, all_fv hcs1] <;> decide) hK
@[irreducible] def blkRow (s : St) (B : List UInt8) : List UInt32 := if B.length = 64 then (blockS s B).row else List.replicate 8 0
@[irreducible] def blkErr (B : List UInt8) : Int := if B.length = 64 then 0 else 1
set_option maxHeartbeats 1000000 in
theorem block20 (s : St) (ss : List A) (hss : ss = u32s s.row) (cs : List A) (B z : List UInt8) (n cap : Nat) (hcs : cs = u8s (B ++ z)) (hn : n = B.length) {K : V → Hp → Prop}
    (hK : ∀ rs e, rs = u32s (blkRow s B) → e = blkErr B → K (.t [.g rs, .a (.int .i64 e)]) [.cells cs 5 false]) :
    Go.Eng.Fn Try.prog ro 20 [.g ss, .a (.slc 0 0 n cap)] [.cells cs 5 false] K := by
  obtain ⟨z8, hz8⟩ : ∃ zs : List A, zs = [A.int .u32 0, A.int .u32 0, A.int .u32 0, A.int .u32 0, A.int .u32 0, A.int .u32 0, A.int .u32 0, A.int .u32 0] := ⟨_, rfl⟩
  have hy : z8 = u32s (List.replicate 8 0) := by rw [hz8]; unfold u32s; rfl
  have h8l : z8.length = 8 := by rw [fw_len hy]; rfl
  have hsl : ss.length = 8 := by rw [fw_len hss]; rfl
  refine Go.Eng.Fn.weak ?_
  refine Go.Eng.Fn.of 1 (gOf []) rfl Try.func20 rfl (Nat.le_of_ble_eq_true rfl) ?_
  conv => whnf
  repeat' (first
    | ((with_reducible refine needm_of ?_ ?_); (· first | (rw [hsl]; rfl) | (rw [h8l]; rfl) | (rw [hsl, h8l]; rfl)); conv => whnf)
    | ((with_reducible refine forceL_to (whole_of ?_) ?_); (· first | (rw [hsl]; rfl) | (rw [h8l]; rfl)); conv => whnf)
    | ((with_reducible refine forceL_to (store_all ?_) ?_); (· first | rfl | (rw [hsl, h8l])); conv => whnf)
    | rw [← hz8]
    | ((with_reducible refine regx_of ?_ ?_); (· decide +kernel); conv => whnf)
    | ((with_reducible refine growx_pre ?_ ?_); (· exact ⟨_, rfl⟩); conv => whnf)
    | ((with_reducible refine needm_of ?_ ?_); (· first | assumption | exact decide_eq_true (by omega) | exact mkOK_of (by decide) | decide +kernel | (refine decide_eq_true ?_; simp (disch := omega) only [i64w]; omega)); conv => whnf)
    | ((with_reducible refine condm_pos ?_ ?_); (· assumption); conv => whnf)
    | ((with_reducible refine condm_neg ?_ ?_); (· assumption); conv => whnf)
    | ((with_reducible refine forceL_fv (by assumption) ?_); conv => whnf)
    | ((with_reducible refine forceL_rfv (by assumption) ?_); conv => whnf)
    | ((with_reducible refine forceNm_of ?_); conv => whnf)
    | ((with_reducible refine needm_of (fv_lenL (by assumption) (by assumption)) ?_); conv => whnf)
    | ((with_reducible refine optm_var (fv_strL (by assumption) (by assumption)) (fun s hs => ?_)); conv => whnf)
    | ((with_reducible refine forceA_of ?_); conv => whnf)
    | ((with_reducible refine forceL_fw (by assumption) ?_); conv => whnf)
    | ((with_reducible refine forceL_rfw (by assumption) ?_); conv => whnf)
    | ((with_reducible refine forceL_fl (by assumption) ?_); conv => whnf)
    | ((with_reducible refine forceL_rfl (by assumption) ?_); conv => whnf)
    | fail)
  refine condm_of (fun h => ?_) (fun h => ?_)
  · conv => whnf
    repeat' (first
      | ((with_reducible refine needm_of ?_ ?_); (· first | (rw [hsl]; rfl) | (rw [h8l]; rfl) | (rw [hsl, h8l]; rfl)); conv => whnf)
      | ((with_reducible refine forceL_to (whole_of ?_) ?_); (· first | (rw [hsl]; rfl) | (rw [h8l]; rfl)); conv => whnf)
      | ((with_reducible refine forceL_to (store_all ?_) ?_); (· first | rfl | (rw [hsl, h8l])); conv => whnf)
      | rw [← hz8]
      | ((with_reducible refine regx_of ?_ ?_); (· decide +kernel); conv => whnf)
      | ((with_reducible refine growx_pre ?_ ?_); (· exact ⟨_, rfl⟩); conv => whnf)
      | ((with_reducible refine needm_of ?_ ?_); (· first | assumption | exact decide_eq_true (by omega) | exact mkOK_of (by decide) | decide +kernel | (refine decide_eq_true ?_; simp (disch := omega) only [i64w]; omega)); conv => whnf)
      | ((with_reducible refine condm_pos ?_ ?_); (· assumption); conv => whnf)
      | ((with_reducible refine condm_neg ?_ ?_); (· assumption); conv => whnf)
      | ((with_reducible refine forceL_fv (by assumption) ?_); conv => whnf)
      | ((with_reducible refine forceL_rfv (by assumption) ?_); conv => whnf)
      | ((with_reducible refine forceNm_of ?_); conv => whnf)
      | ((with_reducible refine needm_of (fv_lenL (by assumption) (by assumption)) ?_); conv => whnf)
      | ((with_reducible refine optm_var (fv_strL (by assumption) (by assumption)) (fun s hs => ?_)); conv => whnf)
      | ((with_reducible refine forceA_of ?_); conv => whnf)
      | ((with_reducible refine forceL_fw (by assumption) ?_); conv => whnf)
      | ((with_reducible refine forceL_rfw (by assumption) ?_); conv => whnf)
      | ((with_reducible refine forceL_fl (by assumption) ?_); conv => whnf)
      | ((with_reducible refine forceL_rfl (by assumption) ?_); conv => whnf)
      | fail)
    rw [whole_of (by simp only [h8l]; rfl)]
    have hB64 : ¬ B.length = 64 := by simp at h; omega
    exact keepOf (v₀ := .t [.g z8, .a (.int .i64 1)]) [.cells cs 5 false] [0] (by simp [V.ren, E.ren, (Flat.u32 hy).ren, A.ren]) ⟨ren_fv hcs _ _ _, trivial⟩ (by simp [nodupb, baseb, Ob.okb, frmOk, V.okb, E.okb, A.okb, all_fv hcs, (Flat.u32 hy).all]) (hK z8 1 (by unfold blkRow; rw [if_neg hB64]; exact hy) (by unfold blkErr; rw [if_neg hB64]))
  · conv => whnf
    repeat' (first
      | ((with_reducible refine needm_of ?_ ?_); (· first | (rw [hsl]; rfl) | (rw [h8l]; rfl) | (rw [hsl, h8l]; rfl)); conv => whnf)
      | ((with_reducible refine forceL_to (whole_of ?_) ?_); (· first | (rw [hsl]; rfl) | (rw [h8l]; rfl)); conv => whnf)
      | ((with_reducible refine forceL_to (store_all ?_) ?_); (· first | rfl | (rw [hsl, h8l])); conv => whnf)
      | rw [← hz8]
      | ((with_reducible refine regx_of ?_ ?_); (· decide +kernel); conv => whnf)
      | ((with_reducible refine growx_pre ?_ ?_); (· exact ⟨_, rfl⟩); conv => whnf)
      | ((with_reducible refine needm_of ?_ ?_); (· first | assumption | exact decide_eq_true (by omega) | exact mkOK_of (by decide) | decide +kernel | (refine decide_eq_true ?_; simp (disch := omega) only [i64w]; omega)); conv => whnf)
      | ((with_reducible refine condm_pos ?_ ?_); (· assumption); conv => whnf)
      | ((with_reducible refine condm_neg ?_ ?_); (· assumption); conv => whnf)
      | ((with_reducible refine forceL_fv (by assumption) ?_); conv => whnf)
      | ((with_reducible refine forceL_rfv (by assumption) ?_); conv => whnf)
      | ((with_reducible refine forceNm_of ?_); conv => whnf)
      | ((with_reducible refine needm_of (fv_lenL (by assumption) (by assumption)) ?_); conv => whnf)
      | ((with_reducible refine optm_var (fv_strL (by assumption) (by assumption)) (fun s hs => ?_)); conv => whnf)
      | ((with_reducible refine forceA_of ?_); conv => whnf)
      | ((with_reducible refine forceL_fw (by assumption) ?_); conv => whnf)
      | ((with_reducible refine forceL_rfw (by assumption) ?_); conv => whnf)
      | ((with_reducible refine forceL_fl (by assumption) ?_); conv => whnf)
      | ((with_reducible refine forceL_rfl (by assumption) ?_); conv => whnf)
      | fail)
    have hn64 : n = 64 := by simp at h; omega
    subst hn64
    refine Go.Eng.Fn.frame [0] (by simp [V.ren, (Flat.u32 hss).ren, A.ren, dsOf]) (by exact ⟨ren_fv hcs _ _ _, trivial⟩) (by simp [nodupb, V.okb, A.okb, Ob.okb, all_fv hcs, (Flat.u32 hss).all]) (made40 s ss hss cs _ 0 cap hcs (by rw [List.length_append]; omega) B (fun j hj => by rw [Nat.zero_add, List.getElem?_append_left (by omega), List.getD_eq_getElem?_getD, List.getElem?_eq_getElem (by omega)]; rfl) (fun rs hrs => ?_))
    have hrl : rs.length = 8 := by rw [fw_len hrs]; rfl
    conv => whnf
    repeat' (first
      | ((with_reducible refine regx_of ?_ ?_); (· decide +kernel); conv => whnf)
      | ((with_reducible refine growx_pre ?_ ?_); (· exact ⟨_, rfl⟩); conv => whnf)
      | ((with_reducible refine needm_of ?_ ?_); (· first | assumption | exact decide_eq_true (by omega) | exact mkOK_of (by decide) | decide +kernel | (refine decide_eq_true ?_; simp (disch := omega) only [i64w]; omega)); conv => whnf)
      | ((with_reducible refine condm_pos ?_ ?_); (· assumption); conv => whnf)
      | ((with_reducible refine condm_neg ?_ ?_); (· assumption); conv => whnf)
      | ((with_reducible refine forceL_fv (by assumption) ?_); conv => whnf)
      | ((with_reducible refine forceL_rfv (by assumption) ?_); conv => whnf)
      | ((with_reducible refine forceNm_of ?_); conv => whnf)
      | ((with_reducible refine needm_of (fv_lenL (by assumption) (by assumption)) ?_); conv => whnf)
      | ((with_reducible refine optm_var (fv_strL (by assumption) (by assumption)) (fun s hs => ?_)); conv => whnf)
      | ((with_reducible refine forceA_of ?_); conv => whnf)
      | ((with_reducible refine forceL_fw (by assumption) ?_); conv => whnf)
      | ((with_reducible refine forceL_rfw (by assumption) ?_); conv => whnf)
      | ((with_reducible refine forceL_fl (by assumption) ?_); conv => whnf)
      | ((with_reducible refine forceL_rfl (by assumption) ?_); conv => whnf)
      | fail)
    refine needm_of (by simp only [hrl, h8l]; rfl) ?_
    conv => whnf
    repeat' (first
      | ((with_reducible refine regx_of ?_ ?_); (· decide +kernel); conv => whnf)
      | ((with_reducible refine growx_pre ?_ ?_); (· exact ⟨_, rfl⟩); conv => whnf)
      | ((with_reducible refine needm_of ?_ ?_); (· first | assumption | exact decide_eq_true (by omega) | exact mkOK_of (by decide) | decide +kernel | (refine decide_eq_true ?_; simp (disch := omega) only [i64w]; omega)); conv => whnf)
      | ((with_reducible refine condm_pos ?_ ?_); (· assumption); conv => whnf)
      | ((with_reducible refine condm_neg ?_ ?_); (· assumption); conv => whnf)
      | ((with_reducible refine forceL_fv (by assumption) ?_); conv => whnf)
      | ((with_reducible refine forceL_rfv (by assumption) ?_); conv => whnf)
      | ((with_reducible refine forceNm_of ?_); conv => whnf)
      | ((with_reducible refine needm_of (fv_lenL (by assumption) (by assumption)) ?_); conv => whnf)
      | ((with_reducible refine optm_var (fv_strL (by assumption) (by assumption)) (fun s hs => ?_)); conv => whnf)
      | ((with_reducible refine forceA_of ?_); conv => whnf)
      | ((with_reducible refine forceL_fw (by assumption) ?_); conv => whnf)
      | ((with_reducible refine forceL_rfw (by assumption) ?_); conv => whnf)
      | ((with_reducible refine forceL_fl (by assumption) ?_); conv => whnf)
      | ((with_reducible refine forceL_rfl (by assumption) ?_); conv => whnf)
      | fail)
    refine forceL_to (store_all (by simp only [hrl, h8l])) ?_
    conv => whnf
    repeat' (first
      | ((with_reducible refine regx_of ?_ ?_); (· decide +kernel); conv => whnf)
      | ((with_reducible refine growx_pre ?_ ?_); (· exact ⟨_, rfl⟩); conv => whnf)
      | ((with_reducible refine needm_of ?_ ?_); (· first | assumption | exact decide_eq_true (by omega) | exact mkOK_of (by decide) | decide +kernel | (refine decide_eq_true ?_; simp (disch := omega) only [i64w]; omega)); conv => whnf)
      | ((with_reducible refine condm_pos ?_ ?_); (· assumption); conv => whnf)
      | ((with_reducible refine condm_neg ?_ ?_); (· assumption); conv => whnf)
      | ((with_reducible refine forceL_fv (by assumption) ?_); conv => whnf)
      | ((with_reducible refine forceL_rfv (by assumption) ?_); conv => whnf)
      | ((with_reducible refine forceNm_of ?_); conv => whnf)
      | ((with_reducible refine needm_of (fv_lenL (by assumption) (by assumption)) ?_); conv => whnf)
      | ((with_reducible refine optm_var (fv_strL (by assumption) (by assumption)) (fun s hs => ?_)); conv => whnf)
      | ((with_reducible refine forceA_of ?_); conv => whnf)
      | ((with_reducible refine forceL_fw (by assumption) ?_); conv => whnf)
      | ((with_reducible refine forceL_rfw (by assumption) ?_); conv => whnf)
      | ((with_reducible refine forceL_fl (by assumption) ?_); conv => whnf)
      | ((with_reducible refine forceL_rfl (by assumption) ?_); conv => whnf)
      | fail)
    refine needm_of (by simp only [hrl]; rfl) ?_
    conv => whnf
    rw [whole_of (by simp only [hrl]; rfl)]
    have hB64 : B.length = 64 := hn.symm
    exact keepOf (v₀ := .t [.g rs, .a (.int .i64 0)]) [.cells cs 5 false] [0] (by simp [V.ren, E.ren, (Flat.u32 hrs).ren, A.ren]) ⟨ren_fv hcs _ _ _, trivial⟩ (by simp [nodupb, baseb, Ob.okb, frmOk, V.okb, E.okb, A.okb, all_fv hcs, (Flat.u32 hrs).all]) (hK rs 0 (by unfold blkRow; rw [if_pos hB64]; exact hrs) (by unfold blkErr; rw [if_pos hB64]))
theorem s64 : Try.prog.types[64].size = 64 := rfl
theorem u8s_len {cs : List A} {L : List UInt8} (h : cs = u8s L) : cs.length = L.length := by subst h; simp
set_option maxHeartbeats 1000000 in
theorem block21 (s : St) (ss : List A) (hss : ss = u32s s.row) (cs : List A) (B z : List UInt8) (n cap : Nat) (hcs : cs = u8s (B ++ z)) (hn : n = B.length) {K : V → Hp → Prop}
    (hK : ∀ rs e, rs = u32s (blkRow s B) → e = blkErr B → K (.t [.g rs, .a (.int .i64 e)]) [.cells cs 5 false]) :
    Go.Eng.Fn Try.prog ro 21 [.g ss, .a (.slc 0 0 n cap)] [.cells cs 5 false] K := by
  obtain ⟨z8, hz8⟩ : ∃ zs : List A, zs = [A.int .u32 0, A.int .u32 0, A.int .u32 0, A.int .u32 0, A.int .u32 0, A.int .u32 0, A.int .u32 0, A.int .u32 0] := ⟨_, rfl⟩
  have hy : z8 = u32s (List.replicate 8 0) := by rw [hz8]; unfold u32s; rfl
  obtain ⟨z64, hz64⟩ : ∃ zs : List A, zs = [A.int .u8 0, A.int .u8 0, A.int .u8 0, A.int .u8 0, A.int .u8 0, A.int .u8 0, A.int .u8 0, A.int .u8 0, A.int .u8 0, A.int .u8 0, A.int .u8 0, A.int .u8 0, A.int .u8 0, A.int .u8 0, A.int .u8 0, A.int .u8 0, A.int .u8 0, A.int .u8 0, A.int .u8 0, A.int .u8 0, A.int .u8 0, A.int .u8 0, A.int .u8 0, A.int .u8 0, A.int .u8 0, A.int .u8 0, A.int .u8 0, A.int .u8 0, A.int .u8 0, A.int .u8 0, A.int .u8 0, A.int .u8 0, A.int .u8 0, A.int .u8 0, A.int .u8 0, A.int .u8 0, A.int .u8 0, A.int .u8 0, A.int .u8 0, A.int .u8 0, A.int .u8 0, A.int .u8 0, A.int .u8 0, A.int .u8 0, A.int .u8 0, A.int .u8 0, A.int .u8 0, A.int .u8 0, A.int .u8 0, A.int .u8 0, A.int .u8 0, A.int .u8 0, A.int .u8 0, A.int .u8 0, A.int .u8 0, A.int .u8 0, A.int .u8 0, A.int .u8 0, A.int .u8 0, A.int .u8 0, A.int .u8 0, A.int .u8 0, A.int .u8 0, A.int .u8 0] := ⟨_, rfl⟩
  have hz : z64 = u8s (List.replicate 64 0) := by rw [hz64]; unfold u8s; rfl
  have h64l : z64.length = 64 := by rw [u8s_len hz]; rfl
  have h8l : z8.length = 8 := by rw [fw_len hy]; rfl
  have hsl : ss.length = 8 := by rw [fw_len hss]; rfl
  refine Go.Eng.Fn.weak ?_
  refine Go.Eng.Fn.of 1 (gOf []) rfl Try.func21 rfl (Nat.le_of_ble_eq_true rfl) ?_
  conv => whnf
  repeat' (first
    | ((with_reducible refine needm_of ?_ ?_); (· first | (rw [hsl]; rfl) | (rw [h8l]; rfl) | (rw [hsl, h8l]; rfl)); conv => whnf)
    | ((with_reducible refine forceL_to (whole_of ?_) ?_); (· first | (rw [hsl]; rfl) | (rw [h8l]; rfl)); conv => whnf)
    | ((with_reducible refine forceL_to (store_all ?_) ?_); (· first | rfl | (rw [hsl, h8l])); conv => whnf)
    | rw [← hz8]
    | ((with_reducible refine regx_of ?_ ?_); (· decide +kernel); conv => whnf)
    | ((with_reducible refine growx_pre ?_ ?_); (· exact ⟨_, rfl⟩); conv => whnf)
    | ((with_reducible refine needm_of ?_ ?_); (· first | assumption | exact decide_eq_true (by omega) | exact mkOK_of (by decide) | decide +kernel | (refine decide_eq_true ?_; simp (disch := omega) only [i64w]; omega)); conv => whnf)
    | ((with_reducible refine condm_pos ?_ ?_); (· assumption); conv => whnf)
    | ((with_reducible refine condm_neg ?_ ?_); (· assumption); conv => whnf)
    | ((with_reducible refine forceL_fv (by assumption) ?_); conv => whnf)
    | ((with_reducible refine forceL_rfv (by assumption) ?_); conv => whnf)
    | ((with_reducible refine forceNm_of ?_); conv => whnf)
    | ((with_reducible refine needm_of (fv_lenL (by assumption) (by assumption)) ?_); conv => whnf)
    | ((with_reducible refine optm_var (fv_strL (by assumption) (by assumption)) (fun s hs => ?_)); conv => whnf)
    | ((with_reducible refine forceA_of ?_); conv => whnf)
    | ((with_reducible refine forceL_fw (by assumption) ?_); conv => whnf)
    | ((with_reducible refine forceL_rfw (by assumption) ?_); conv => whnf)
    | ((with_reducible refine forceL_fl (by assumption) ?_); conv => whnf)
    | ((with_reducible refine forceL_rfl (by assumption) ?_); conv => whnf)
    | fail)
  refine condm_of (fun h => ?_) (fun h => ?_)
  · conv => whnf
    repeat' (first
      | ((with_reducible refine needm_of ?_ ?_); (· first | (rw [hsl]; rfl) | (rw [h8l]; rfl) | (rw [hsl, h8l]; rfl)); conv => whnf)
      | ((with_reducible refine forceL_to (whole_of ?_) ?_); (· first | (rw [hsl]; rfl) | (rw [h8l]; rfl)); conv => whnf)
      | ((with_reducible refine forceL_to (store_all ?_) ?_); (· first | rfl | (rw [hsl, h8l])); conv => whnf)
      | rw [← hz8]
      | ((with_reducible refine regx_of ?_ ?_); (· decide +kernel); conv => whnf)
      | ((with_reducible refine growx_pre ?_ ?_); (· exact ⟨_, rfl⟩); conv => whnf)
      | ((with_reducible refine needm_of ?_ ?_); (· first | assumption | exact decide_eq_true (by omega) | exact mkOK_of (by decide) | decide +kernel | (refine decide_eq_true ?_; simp (disch := omega) only [i64w]; omega)); conv => whnf)
      | ((with_reducible refine condm_pos ?_ ?_); (· assumption); conv => whnf)
      | ((with_reducible refine condm_neg ?_ ?_); (· assumption); conv => whnf)
      | ((with_reducible refine forceL_fv (by assumption) ?_); conv => whnf)
      | ((with_reducible refine forceL_rfv (by assumption) ?_); conv => whnf)
      | ((with_reducible refine forceNm_of ?_); conv => whnf)
      | ((with_reducible refine needm_of (fv_lenL (by assumption) (by assumption)) ?_); conv => whnf)
      | ((with_reducible refine optm_var (fv_strL (by assumption) (by assumption)) (fun s hs => ?_)); conv => whnf)
      | ((with_reducible refine forceA_of ?_); conv => whnf)
      | ((with_reducible refine forceL_fw (by assumption) ?_); conv => whnf)
      | ((with_reducible refine forceL_rfw (by assumption) ?_); conv => whnf)
      | ((with_reducible refine forceL_fl (by assumption) ?_); conv => whnf)
      | ((with_reducible refine forceL_rfl (by assumption) ?_); conv => whnf)
      | fail)
    rw [whole_of (by rw [h8l]; rfl)]
    have hB64 : ¬ B.length = 64 := by simp at h; omega
    exact keepOf (v₀ := .t [.g z8, .a (.int .i64 1)]) [.cells cs 5 false] [0] (by simp [V.ren, E.ren, (Flat.u32 hy).ren, A.ren]) ⟨ren_fv hcs _ _ _, trivial⟩ (by simp [nodupb, baseb, Ob.okb, frmOk, V.okb, E.okb, A.okb, all_fv hcs, (Flat.u32 hy).all]) (hK z8 1 (by unfold blkRow; rw [if_neg hB64]; exact hy) (by unfold blkErr; rw [if_neg hB64]))
  · have hn64 : n = 64 := by simp at h; omega
    subst hn64
    have hB64 : B.length = 64 := hn.symm
    have hcl : 64 ≤ cs.length := by rw [u8s_len hcs, List.length_append]; omega
    conv => whnf
    repeat' (first
      | rw [← hz64]
      | ((with_reducible refine needm_of ?_ ?_); (· first | (rw [hsl]; rfl) | (rw [h8l]; rfl) | (rw [hsl, h8l]; rfl)); conv => whnf)
      | ((with_reducible refine forceL_to (whole_of ?_) ?_); (· first | (rw [hsl]; rfl) | (rw [h8l]; rfl)); conv => whnf)
      | ((with_reducible refine forceL_to (store_all ?_) ?_); (· first | rfl | (rw [hsl, h8l])); conv => whnf)
      | rw [← hz8]
      | ((with_reducible refine regx_of ?_ ?_); (· decide +kernel); conv => whnf)
      | ((with_reducible refine growx_pre ?_ ?_); (· exact ⟨_, rfl⟩); conv => whnf)
      | ((with_reducible refine needm_of ?_ ?_); (· first | assumption | exact decide_eq_true (by omega) | exact mkOK_of (by decide) | decide +kernel | (refine decide_eq_true ?_; simp (disch := omega) only [i64w]; omega)); conv => whnf)
      | ((with_reducible refine condm_pos ?_ ?_); (· assumption); conv => whnf)
      | ((with_reducible refine condm_neg ?_ ?_); (· assumption); conv => whnf)
      | ((with_reducible refine forceL_fv (by assumption) ?_); conv => whnf)
      | ((with_reducible refine forceL_rfv (by assumption) ?_); conv => whnf)
      | ((with_reducible refine forceNm_of ?_); conv => whnf)
      | ((with_reducible refine needm_of (fv_lenL (by assumption) (by assumption)) ?_); conv => whnf)
      | ((with_reducible refine optm_var (fv_strL (by assumption) (by assumption)) (fun s hs => ?_)); conv => whnf)
      | ((with_reducible refine forceA_of ?_); conv => whnf)
      | ((with_reducible refine forceL_fw (by assumption) ?_); conv => whnf)
      | ((with_reducible refine forceL_rfw (by assumption) ?_); conv => whnf)
      | ((with_reducible refine forceL_fl (by assumption) ?_); conv => whnf)
      | ((with_reducible refine forceL_rfl (by assumption) ?_); conv => whnf)
      | fail)
    refine needm_of (decide_eq_true (by rw [s64]; omega)) ?_
    conv => whnf
    refine forceL_var (l' := u8s B) ?_ (fun bs hbs => ?_)
    · rw [hcs, s64, List.drop_zero, u8s_take, List.take_append_of_le_length (by omega), List.take_of_length_le (by omega)]
    have hbl : bs.length = 64 := by rw [u8s_len hbs]; exact hB64
    conv => whnf
    repeat' (first
      | rw [← hz64]
      | ((with_reducible refine needm_of ?_ ?_); (· first | (rw [hsl]; rfl) | (rw [h8l]; rfl) | (rw [hsl, h8l]; rfl)); conv => whnf)
      | ((with_reducible refine forceL_to (whole_of ?_) ?_); (· first | (rw [hsl]; rfl) | (rw [h8l]; rfl)); conv => whnf)
      | ((with_reducible refine forceL_to (store_all ?_) ?_); (· first | rfl | (rw [hsl, h8l])); conv => whnf)
      | rw [← hz8]
      | ((with_reducible refine regx_of ?_ ?_); (· decide +kernel); conv => whnf)
      | ((with_reducible refine growx_pre ?_ ?_); (· exact ⟨_, rfl⟩); conv => whnf)
      | ((with_reducible refine needm_of ?_ ?_); (· first | assumption | exact decide_eq_true (by omega) | exact mkOK_of (by decide) | decide +kernel | (refine decide_eq_true ?_; simp (disch := omega) only [i64w]; omega)); conv => whnf)
      | ((with_reducible refine condm_pos ?_ ?_); (· assumption); conv => whnf)
      | ((with_reducible refine condm_neg ?_ ?_); (· assumption); conv => whnf)
      | ((with_reducible refine forceL_fv (by assumption) ?_); conv => whnf)
      | ((with_reducible refine forceL_rfv (by assumption) ?_); conv => whnf)
      | ((with_reducible refine forceNm_of ?_); conv => whnf)
      | ((with_reducible refine needm_of (fv_lenL (by assumption) (by assumption)) ?_); conv => whnf)
      | ((with_reducible refine optm_var (fv_strL (by assumption) (by assumption)) (fun s hs => ?_)); conv => whnf)
      | ((with_reducible refine forceA_of ?_); conv => whnf)
      | ((with_reducible refine forceL_fw (by assumption) ?_); conv => whnf)
      | ((with_reducible refine forceL_rfw (by assumption) ?_); conv => whnf)
      | ((with_reducible refine forceL_fl (by assumption) ?_); conv => whnf)
      | ((with_reducible refine forceL_rfl (by assumption) ?_); conv => whnf)
      | fail)
    refine needm_of (by rw [hbl, h64l]; rfl) ?_
    conv => whnf
    repeat' (first
      | ((with_reducible refine needm_of ?_ ?_); (· first | (rw [hsl]; rfl) | (rw [h8l]; rfl) | (rw [hsl, h8l]; rfl)); conv => whnf)
      | ((with_reducible refine forceL_to (whole_of ?_) ?_); (· first | (rw [hsl]; rfl) | (rw [h8l]; rfl)); conv => whnf)
      | ((with_reducible refine forceL_to (store_all ?_) ?_); (· first | rfl | (rw [hsl, h8l])); conv => whnf)
      | rw [← hz8]
      | ((with_reducible refine regx_of ?_ ?_); (· decide +kernel); conv => whnf)
      | ((with_reducible refine growx_pre ?_ ?_); (· exact ⟨_, rfl⟩); conv => whnf)
      | ((with_reducible refine needm_of ?_ ?_); (· first | assumption | exact decide_eq_true (by omega) | exact mkOK_of (by decide) | decide +kernel | (refine decide_eq_true ?_; simp (disch := omega) only [i64w]; omega)); conv => whnf)
      | ((with_reducible refine condm_pos ?_ ?_); (· assumption); conv => whnf)
      | ((with_reducible refine condm_neg ?_ ?_); (· assumption); conv => whnf)
      | ((with_reducible refine forceL_fv (by assumption) ?_); conv => whnf)
      | ((with_reducible refine forceL_rfv (by assumption) ?_); conv => whnf)
      | ((with_reducible refine forceNm_of ?_); conv => whnf)
      | ((with_reducible refine needm_of (fv_lenL (by assumption) (by assumption)) ?_); conv => whnf)
      | ((with_reducible refine optm_var (fv_strL (by assumption) (by assumption)) (fun s hs => ?_)); conv => whnf)
      | ((with_reducible refine forceA_of ?_); conv => whnf)
      | ((with_reducible refine forceL_fw (by assumption) ?_); conv => whnf)
      | ((with_reducible refine forceL_rfw (by assumption) ?_); conv => whnf)
      | ((with_reducible refine forceL_fl (by assumption) ?_); conv => whnf)
      | ((with_reducible refine forceL_rfl (by assumption) ?_); conv => whnf)
      | fail)
    refine forceL_to (store_all (by rw [hbl, h64l])) ?_
    conv => whnf
    repeat' (first
      | ((with_reducible refine needm_of ?_ ?_); (· first | (rw [hsl]; rfl) | (rw [h8l]; rfl) | (rw [hsl, h8l]; rfl)); conv => whnf)
      | ((with_reducible refine forceL_to (whole_of ?_) ?_); (· first | (rw [hsl]; rfl) | (rw [h8l]; rfl)); conv => whnf)
      | ((with_reducible refine forceL_to (store_all ?_) ?_); (· first | rfl | (rw [hsl, h8l])); conv => whnf)
      | rw [← hz8]
      | ((with_reducible refine regx_of ?_ ?_); (· decide +kernel); conv => whnf)
      | ((with_reducible refine growx_pre ?_ ?_); (· exact ⟨_, rfl⟩); conv => whnf)
      | ((with_reducible refine needm_of ?_ ?_); (· first | assumption | exact decide_eq_true (by omega) | exact mkOK_of (by decide) | decide +kernel | (refine decide_eq_true ?_; simp (disch := omega) only [i64w]; omega)); conv => whnf)
      | ((with_reducible refine condm_pos ?_ ?_); (· assumption); conv => whnf)
      | ((with_reducible refine condm_neg ?_ ?_); (· assumption); conv => whnf)
      | ((with_reducible refine forceL_fv (by assumption) ?_); conv => whnf)
      | ((with_reducible refine forceL_rfv (by assumption) ?_); conv => whnf)
      | ((with_reducible refine forceNm_of ?_); conv => whnf)
      | ((with_reducible refine needm_of (fv_lenL (by assumption) (by assumption)) ?_); conv => whnf)
      | ((with_reducible refine optm_var (fv_strL (by assumption) (by assumption)) (fun s hs => ?_)); conv => whnf)
      | ((with_reducible refine forceA_of ?_); conv => whnf)
      | ((with_reducible refine forceL_fw (by assumption) ?_); conv => whnf)
      | ((with_reducible refine forceL_rfw (by assumption) ?_); conv => whnf)
      | ((with_reducible refine forceL_fl (by assumption) ?_); conv => whnf)
      | ((with_reducible refine forceL_rfl (by assumption) ?_); conv => whnf)
      | fail)
    refine Go.Eng.Fn.frame [3] (by simp [V.ren, (Flat.u32 hss).ren, A.ren, dsOf]) (by exact ⟨ren_fv hbs _ _ _, trivial⟩) (by simp [nodupb, V.okb, A.okb, Ob.okb, all_fv hbs, (Flat.u32 hss).all]) (step41 s ss hss bs 0 64 false (Flat.u8 hbs) B (fun j hj => by rw [Nat.zero_add, fv_get hbs (by omega), List.getD_eq_getElem?_getD, List.getElem?_eq_getElem (by omega)]; rfl) (fun rs hrs => ?_))
    have hrl : rs.length = 8 := by rw [fw_len hrs]; rfl
    conv => whnf
    repeat' (first
      | ((with_reducible refine needm_of ?_ ?_); (· first | (rw [hsl]; rfl) | (rw [h8l]; rfl) | (rw [hsl, h8l]; rfl)); conv => whnf)
      | ((with_reducible refine forceL_to (whole_of ?_) ?_); (· first | (rw [hsl]; rfl) | (rw [h8l]; rfl)); conv => whnf)
      | ((with_reducible refine forceL_to (store_all ?_) ?_); (· first | rfl | (rw [hsl, h8l])); conv => whnf)
      | rw [← hz8]
      | ((with_reducible refine regx_of ?_ ?_); (· decide +kernel); conv => whnf)
      | ((with_reducible refine growx_pre ?_ ?_); (· exact ⟨_, rfl⟩); conv => whnf)
      | ((with_reducible refine needm_of ?_ ?_); (· first | assumption | exact decide_eq_true (by omega) | exact mkOK_of (by decide) | decide +kernel | (refine decide_eq_true ?_; simp (disch := omega) only [i64w]; omega)); conv => whnf)
      | ((with_reducible refine condm_pos ?_ ?_); (· assumption); conv => whnf)
      | ((with_reducible refine condm_neg ?_ ?_); (· assumption); conv => whnf)
      | ((with_reducible refine forceL_fv (by assumption) ?_); conv => whnf)
      | ((with_reducible refine forceL_rfv (by assumption) ?_); conv => whnf)
      | ((with_reducible refine forceNm_of ?_); conv => whnf)
      | ((with_reducible refine needm_of (fv_lenL (by assumption) (by assumption)) ?_); conv => whnf)
      | ((with_reducible refine optm_var (fv_strL (by assumption) (by assumption)) (fun s hs => ?_)); conv => whnf)
      | ((with_reducible refine forceA_of ?_); conv => whnf)
      | ((with_reducible refine forceL_fw (by assumption) ?_); conv => whnf)
      | ((with_reducible refine forceL_rfw (by assumption) ?_); conv => whnf)
      | ((with_reducible refine forceL_fl (by assumption) ?_); conv => whnf)
      | ((with_reducible refine forceL_rfl (by assumption) ?_); conv => whnf)
      | fail)
    refine needm_of (by rw [hrl, h8l]; rfl) ?_
    conv => whnf
    repeat' (first
      | ((with_reducible refine needm_of ?_ ?_); (· first | (rw [hsl]; rfl) | (rw [h8l]; rfl) | (rw [hsl, h8l]; rfl)); conv => whnf)
      | ((with_reducible refine forceL_to (whole_of ?_) ?_); (· first | (rw [hsl]; rfl) | (rw [h8l]; rfl)); conv => whnf)
      | ((with_reducible refine forceL_to (store_all ?_) ?_); (· first | rfl | (rw [hsl, h8l])); conv => whnf)
      | rw [← hz8]
      | ((with_reducible refine regx_of ?_ ?_); (· decide +kernel); conv => whnf)
      | ((with_reducible refine growx_pre ?_ ?_); (· exact ⟨_, rfl⟩); conv => whnf)
      | ((with_reducible refine needm_of ?_ ?_); (· first | assumption | exact decide_eq_true (by omega) | exact mkOK_of (by decide) | decide +kernel | (refine decide_eq_true ?_; simp (disch := omega) only [i64w]; omega)); conv => whnf)
      | ((with_reducible refine condm_pos ?_ ?_); (· assumption); conv => whnf)
      | ((with_reducible refine condm_neg ?_ ?_); (· assumption); conv => whnf)
      | ((with_reducible refine forceL_fv (by assumption) ?_); conv => whnf)
      | ((with_reducible refine forceL_rfv (by assumption) ?_); conv => whnf)
      | ((with_reducible refine forceNm_of ?_); conv => whnf)
      | ((with_reducible refine needm_of (fv_lenL (by assumption) (by assumption)) ?_); conv => whnf)
      | ((with_reducible refine optm_var (fv_strL (by assumption) (by assumption)) (fun s hs => ?_)); conv => whnf)
      | ((with_reducible refine forceA_of ?_); conv => whnf)
      | ((with_reducible refine forceL_fw (by assumption) ?_); conv => whnf)
      | ((with_reducible refine forceL_rfw (by assumption) ?_); conv => whnf)
      | ((with_reducible refine forceL_fl (by assumption) ?_); conv => whnf)
      | ((with_reducible refine forceL_rfl (by assumption) ?_); conv => whnf)
      | fail)
    refine forceL_to (store_all (by rw [hrl, h8l])) ?_
    conv => whnf
    repeat' (first
      | ((with_reducible refine needm_of ?_ ?_); (· first | (rw [hsl]; rfl) | (rw [h8l]; rfl) | (rw [hsl, h8l]; rfl)); conv => whnf)
      | ((with_reducible refine forceL_to (whole_of ?_) ?_); (· first | (rw [hsl]; rfl) | (rw [h8l]; rfl)); conv => whnf)
      | ((with_reducible refine forceL_to (store_all ?_) ?_); (· first | rfl | (rw [hsl, h8l])); conv => whnf)
      | rw [← hz8]
      | ((with_reducible refine regx_of ?_ ?_); (· decide +kernel); conv => whnf)
      | ((with_reducible refine growx_pre ?_ ?_); (· exact ⟨_, rfl⟩); conv => whnf)
      | ((with_reducible refine needm_of ?_ ?_); (· first | assumption | exact decide_eq_true (by omega) | exact mkOK_of (by decide) | decide +kernel | (refine decide_eq_true ?_; simp (disch := omega) only [i64w]; omega)); conv => whnf)
      | ((with_reducible refine condm_pos ?_ ?_); (· assumption); conv => whnf)
      | ((with_reducible refine condm_neg ?_ ?_); (· assumption); conv => whnf)
      | ((with_reducible refine forceL_fv (by assumption) ?_); conv => whnf)
      | ((with_reducible refine forceL_rfv (by assumption) ?_); conv => whnf)
      | ((with_reducible refine forceNm_of ?_); conv => whnf)
      | ((with_reducible refine needm_of (fv_lenL (by assumption) (by assumption)) ?_); conv => whnf)
      | ((with_reducible refine optm_var (fv_strL (by assumption) (by assumption)) (fun s hs => ?_)); conv => whnf)
      | ((with_reducible refine forceA_of ?_); conv => whnf)
      | ((with_reducible refine forceL_fw (by assumption) ?_); conv => whnf)
      | ((with_reducible refine forceL_rfw (by assumption) ?_); conv => whnf)
      | ((with_reducible refine forceL_fl (by assumption) ?_); conv => whnf)
      | ((with_reducible refine forceL_rfl (by assumption) ?_); conv => whnf)
      | fail)
    refine needm_of (by rw [hrl]; rfl) ?_
    conv => whnf
    rw [whole_of (by rw [hrl]; rfl)]
    exact keepOf (v₀ := .t [.g rs, .a (.int .i64 0)]) [.cells cs 5 false] [0] (by simp [V.ren, E.ren, (Flat.u32 hrs).ren, A.ren]) ⟨ren_fv hcs _ _ _, trivial⟩ (by simp [nodupb, baseb, Ob.okb, frmOk, V.okb, E.okb, A.okb, all_fv hcs, (Flat.u32 hrs).all]) (hK rs 0 (by unfold blkRow; rw [if_pos hB64]; exact hrs) (by unfold blkErr; rw [if_pos hB64]))
theorem eqIt_same {P : Program} {rec : TypeId → V → V → Option Bool} {e c : Nat} {xs : List A} (hr : ∀ k n, rec e (.a (.int k n)) (.a (.int k n)) = some true) : ∀ (is : List Nat), (∀ i ∈ is, ∃ k n, partO P e xs (i * c) = some (.a (.int k n))) → eqIt P rec e c xs xs is = some true
  | [], _ => rfl
  | i :: is, h => by
    obtain ⟨k, n, hp⟩ := h i (by simp)
    unfold eqIt
    rw [hp]
    simp only [hr, eqIt_same hr is fun j hj => h j (by simp [hj])]
    rfl
theorem same33 {xs : List A} {R : List UInt32} (h : xs = u32s R) (hl : R.length = 8) : EqAgg Try.prog 33 xs xs true := by
  apply EqAgg.of
  show eqIt Try.prog (eqD Try.prog 11) 32 1 xs xs (List.range 8) = some true
  refine eqIt_same (fun k n => ?_) _ (fun i hi => ?_)
  · show (if k = k then some (decide (n = n)) else none) = some true
    simp
  · have hi8 : i < 8 := by simpa using hi
    refine ⟨.u32, ((R[i]'(by omega)).toNat : Int), ?_⟩
    show (match xs[i * 1]? with | some x => some (V.a x) | none => none) = _
    rw [Nat.mul_one, fw_get h (List.getElem?_eq_getElem (by omega : i < R.length))]
end
end Go.Proofs.Ytglbldhineggaaa.DG
