import Derived.Test.YtglbldhineggaaaDM
namespace Go.Proofs.Ytglbldhineggaaa.DG
open Go.Eng
set_option maxRecDepth 100000
theorem s73 : Try.prog.types[73].size = 16 := rfl
section
variable {ro : Addr → A → Prop}
set_option maxHeartbeats 1000000 in
theorem step41 (s : St) (ss : List A) (hss : ss = u32s s.row) (cs : List A) (off ty : Nat) (mk : Bool) (hcs : Flat cs) (B : List UInt8) (hB : ∀ j, j < 64 → cs[off + j]? = some (.int .u8 ((B.getD j 0).toNat : Int))) {K : V → Hp → Prop}
    (hK : ∀ rs, rs = u32s (blockS s B).row → K (.g rs) [.cells cs ty mk]) :
    Go.Eng.Fn Try.prog ro 41 [.g ss, .a (.ptr 0 off)] [.cells cs ty mk] K := by
  refine Go.Eng.Fn.weak ?_
  refine Go.Eng.Fn.of 1 h41 rfl Try.func41 rfl (Nat.le_of_ble_eq_true rfl) ?_
  obtain ⟨z16, hz16⟩ : ∃ zs : List A, zs = [A.int .u32 0, A.int .u32 0, A.int .u32 0, A.int .u32 0, A.int .u32 0, A.int .u32 0, A.int .u32 0, A.int .u32 0, A.int .u32 0, A.int .u32 0, A.int .u32 0, A.int .u32 0, A.int .u32 0, A.int .u32 0, A.int .u32 0, A.int .u32 0] := ⟨_, rfl⟩
  obtain ⟨z8, hz8⟩ : ∃ zs : List A, zs = [A.int .u32 0, A.int .u32 0, A.int .u32 0, A.int .u32 0, A.int .u32 0, A.int .u32 0, A.int .u32 0, A.int .u32 0] := ⟨_, rfl⟩
  have hz : z16 = u32s (List.replicate 16 0) := by rw [hz16]; unfold u32s; rfl
  have hy : z8 = u32s (List.replicate 8 0) := by rw [hz8]; unfold u32s; rfl
  have hsl : ss.length = 8 := by rw [fw_len hss]; rfl
  have h8l : z8.length = 8 := by rw [fw_len hy]; rfl
  conv => whnf
  repeat' (first
    | rw [← hz16]
    | rw [← hz8]
    | ((with_reducible refine regx_of ?_ ?_); (· decide +kernel); conv => whnf)
    | ((with_reducible refine growx_pre ?_ ?_); (· exact ⟨_, rfl⟩); conv => whnf)
    | ((with_reducible refine needm_of ?_ ?_); (· first | assumption | exact decide_eq_true (by omega) | exact mkOK_of (by decide) | decide +kernel | (refine decide_eq_true ?_; simp (disch := omega) only [i64w]; omega)); conv => whnf)
    | ((with_reducible refine condm_pos ?_ ?_); (· assumption); conv => whnf)
    | ((with_reducible refine condm_neg ?_ ?_); (· assumption); conv => whnf)
    | ((with_reducible refine forceL_fv (by assumption) ?_); conv => whnf)
    | ((with_reducible refine forceL_rfv (by assumption) ?_); conv => whnf)
    | ((with_reducible refine forceNm_of ?_); conv => whnf)
    | ((with_reducible refine needm_of (fv_lenL (by assumption) (by assumption)) ?_); conv => whnf)
    | ((with_reducible refine optm_var (fv_strL (by assumption) (by assumption)) (fun s hs => ?_)); conv => whnf)
    | ((with_reducible refine forceA_of ?_); conv => whnf)
    | ((with_reducible refine forceL_fw (by assumption) ?_); conv => whnf)
    | ((with_reducible refine forceL_rfw (by assumption) ?_); conv => whnf)
    | ((with_reducible refine forceL_fl (by assumption) ?_); conv => whnf)
    | ((with_reducible refine forceL_rfl (by assumption) ?_); conv => whnf)
    | fail)
  refine loopx_of (fun m F H => ∃ (i : Nat) (ws : List A) (W : List UInt32), i ≤ 16 ∧ m = 16 - i ∧ ws = u32s W ∧ W.length = 16 ∧ (∀ j, j < i → W[j]? = some (wd B j)) ∧ F = [(1, .a (.ptr 0 off)), (2, .a (.ptr 1 0)), (4, .a (.ptr 2 0)), (5, .a (.ptr 3 0)), (16, .a (.int .i64 i))] ∧ H = [.cells cs ty mk, .cells ss 33 false, .cells z8 33 false, .cells ws 73 false]) 16 ?_ ?_
  · refine Into.weak [0, 1, 2, 3] _ _ ⟨0, z16, _, by omega, rfl, hz, by simp, fun j hj => absurd hj (Nat.not_lt_zero j), rfl, rfl⟩ ⟨rfl, rfl, rfl, rfl, rfl, trivial⟩ ⟨ren_fl hcs _ _ _, ren_fw hss _ _ _, ren_fw hy _ _ _, ren_fw hz _ _ _, trivial⟩ ?_
    simp [nodupb, baseb, Ob.okb, frmOk, V.okb, A.okb, hcs.all, all_fw hss, all_fw hy, all_fw hz] <;> decide
  · rintro m F H ⟨i, ws, W, hi, rfl, hws, hW, hWi, rfl, rfl⟩
    conv => whnf
    refine condm_of (fun h => ?_) (fun h => ?_)
    · have hi16 : i < 16 := by have := of_decide_eq_true h; omega
      have e4 : IntKind.i64.wrap (↑i + 1) = ((i + 1 : Nat) : Int) := by rw [i64w (by omega) (by omega)]; rfl
      have hl : ∀ (k : Nat) (z : Int), z = ((4 * i + k : Nat) : Int) → k < 4 → cs[off + z.toNat * Try.prog.types[5].size]? = some (.int .u8 ((B.getD (4 * i + k) 0).toNat : Int)) := by
        intro k z hz hk
        subst hz
        rw [s5, Int.toNat_natCast, Nat.mul_one, hB (4 * i + k) (by omega)]
      have hw : wordAt B i = word (B.getD (4 * i + 0) 0) (B.getD (4 * i + 1) 0) (B.getD (4 * i + 2) 0) (B.getD (4 * i + 3) 0) := by unfold wordAt; rfl
      conv => whnf
      repeat' (first
        | ((with_reducible refine regx_of ?_ ?_); (· decide +kernel); conv => whnf)
        | ((with_reducible refine growx_pre ?_ ?_); (· exact ⟨_, rfl⟩); conv => whnf)
        | ((with_reducible refine needm_of ?_ ?_); (· first | assumption | exact decide_eq_true (by omega) | exact mkOK_of (by decide) | decide +kernel | (refine decide_eq_true ?_; simp (disch := omega) only [i64w]; omega)); conv => whnf)
        | ((with_reducible refine condm_pos ?_ ?_); (· assumption); conv => whnf)
        | ((with_reducible refine condm_neg ?_ ?_); (· assumption); conv => whnf)
        | ((with_reducible refine forceL_fv (by assumption) ?_); conv => whnf)
        | ((with_reducible refine forceL_rfv (by assumption) ?_); conv => whnf)
        | ((with_reducible refine forceNm_of ?_); conv => whnf)
        | ((with_reducible refine needm_of (fv_lenL (by assumption) (by assumption)) ?_); conv => whnf)
        | ((with_reducible refine optm_var (fv_strL (by assumption) (by assumption)) (fun s hs => ?_)); conv => whnf)
        | ((with_reducible refine forceA_of ?_); conv => whnf)
        | ((with_reducible refine forceL_fw (by assumption) ?_); conv => whnf)
        | ((with_reducible refine forceL_rfw (by assumption) ?_); conv => whnf)
        | ((with_reducible refine forceL_fl (by assumption) ?_); conv => whnf)
        | ((with_reducible refine forceL_rfl (by assumption) ?_); conv => whnf)
        | ((with_reducible refine optm_of (hl 0 _ ?_ (by decide)) ?_); (· (simp (disch := omega) only [i64w]); omega); conv => whnf)
        | ((with_reducible refine optm_of (hl 1 _ ?_ (by decide)) ?_); (· (simp (disch := omega) only [i64w]); omega); conv => whnf)
        | ((with_reducible refine optm_of (hl 2 _ ?_ (by decide)) ?_); (· (simp (disch := omega) only [i64w]); omega); conv => whnf)
        | ((with_reducible refine optm_of (hl 3 _ ?_ (by decide)) ?_); (· (simp (disch := omega) only [i64w]); omega); conv => whnf)
        | fail)
      rw [w_of8, w_of8, w_of8, w_of8, w_shl _ (k := 24) (n := 24) (m := 24) rfl rfl, w_shl _ (k := 16) (n := 16) (m := 16) rfl rfl, w_shl _ (k := 8) (n := 8) (m := 8) rfl rfl, w_or, w_or, w_or, word_or]
      unfold word at hw
      rw [← hw, ← wd_lt hi16]
      have hwl : ws.length = 16 := by rw [fw_len hws, hW]
      refine needm_of (by rw [hwl, s32]; simp; omega) ?_
      conv => whnf
      repeat' (first
        | ((with_reducible refine regx_of ?_ ?_); (· decide +kernel); conv => whnf)
        | ((with_reducible refine growx_pre ?_ ?_); (· exact ⟨_, rfl⟩); conv => whnf)
        | ((with_reducible refine needm_of ?_ ?_); (· first | assumption | exact decide_eq_true (by omega) | exact mkOK_of (by decide) | decide +kernel | (refine decide_eq_true ?_; simp (disch := omega) only [i64w]; omega)); conv => whnf)
        | ((with_reducible refine condm_pos ?_ ?_); (· assumption); conv => whnf)
        | ((with_reducible refine condm_neg ?_ ?_); (· assumption); conv => whnf)
        | ((with_reducible refine forceL_fv (by assumption) ?_); conv => whnf)
        | ((with_reducible refine forceL_rfv (by assumption) ?_); conv => whnf)
        | ((with_reducible refine forceNm_of ?_); conv => whnf)
        | ((with_reducible refine needm_of (fv_lenL (by assumption) (by assumption)) ?_); conv => whnf)
        | ((with_reducible refine optm_var (fv_strL (by assumption) (by assumption)) (fun s hs => ?_)); conv => whnf)
        | ((with_reducible refine forceA_of ?_); conv => whnf)
        | ((with_reducible refine forceL_fw (by assumption) ?_); conv => whnf)
        | ((with_reducible refine forceL_rfw (by assumption) ?_); conv => whnf)
        | ((with_reducible refine forceL_fl (by assumption) ?_); conv => whnf)
        | ((with_reducible refine forceL_rfl (by assumption) ?_); conv => whnf)
        | fail)
      refine forceL_var (fw_setN hws (n := i) (by rw [s32, Nat.zero_add, Nat.mul_one, Int.toNat_natCast])) (fun ws' hws' => ?_)
      conv => whnf
      repeat' (first
        | ((with_reducible refine regx_of ?_ ?_); (· decide +kernel); conv => whnf)
        | ((with_reducible refine growx_pre ?_ ?_); (· exact ⟨_, rfl⟩); conv => whnf)
        | ((with_reducible refine needm_of ?_ ?_); (· first | assumption | exact decide_eq_true (by omega) | exact mkOK_of (by decide) | decide +kernel | (refine decide_eq_true ?_; simp (disch := omega) only [i64w]; omega)); conv => whnf)
        | ((with_reducible refine condm_pos ?_ ?_); (· assumption); conv => whnf)
        | ((with_reducible refine condm_neg ?_ ?_); (· assumption); conv => whnf)
        | ((with_reducible refine forceL_fv (by assumption) ?_); conv => whnf)
        | ((with_reducible refine forceL_rfv (by assumption) ?_); conv => whnf)
        | ((with_reducible refine forceNm_of ?_); conv => whnf)
        | ((with_reducible refine needm_of (fv_lenL (by assumption) (by assumption)) ?_); conv => whnf)
        | ((with_reducible refine optm_var (fv_strL (by assumption) (by assumption)) (fun s hs => ?_)); conv => whnf)
        | ((with_reducible refine forceA_of ?_); conv => whnf)
        | ((with_reducible refine forceL_fw (by assumption) ?_); conv => whnf)
        | ((with_reducible refine forceL_rfw (by assumption) ?_); conv => whnf)
        | ((with_reducible refine forceL_fl (by assumption) ?_); conv => whnf)
        | ((with_reducible refine forceL_rfl (by assumption) ?_); conv => whnf)
        | fail)
      refine ⟨16 - (i + 1), by omega, Into.weak [0, 1, 2, 3] _ _ ⟨i + 1, ws', _, by omega, rfl, hws', by rw [List.length_set]; exact hW, ?_, rfl, rfl⟩ ⟨rfl, rfl, rfl, rfl, congrArg (fun z => some (V.a (.int .i64 z))) e4, trivial⟩ ⟨ren_fl hcs _ _ _, ren_fw hss _ _ _, ren_fw hy _ _ _, ren_fw hws' _ _ _, trivial⟩ ?_⟩
      · intro j hj
        rw [List.getElem?_set]
        by_cases e : i = j
        · subst e
          rw [if_pos rfl, if_pos (by omega)]
        · rw [if_neg e]
          exact hWi j (by omega)
      · simp [nodupb, baseb, Ob.okb, frmOk, V.okb, A.okb, hcs.all, all_fw hss, all_fw hy, all_fw hws'] <;> decide
    · have h16 : i = 16 := by have := of_decide_eq_false h; omega
      subst h16
      conv => whnf
      refine Go.Eng.Fn.frame [] (by rfl) (by exact trivial) (by rfl) (cubes45 (fun ks hks => ?_))
      obtain ⟨z64, hz64⟩ : ∃ zs : List A, zs = [A.int .u32 0, A.int .u32 0, A.int .u32 0, A.int .u32 0, A.int .u32 0, A.int .u32 0, A.int .u32 0, A.int .u32 0, A.int .u32 0, A.int .u32 0, A.int .u32 0, A.int .u32 0, A.int .u32 0, A.int .u32 0, A.int .u32 0, A.int .u32 0, A.int .u32 0, A.int .u32 0, A.int .u32 0, A.int .u32 0, A.int .u32 0, A.int .u32 0, A.int .u32 0, A.int .u32 0, A.int .u32 0, A.int .u32 0, A.int .u32 0, A.int .u32 0, A.int .u32 0, A.int .u32 0, A.int .u32 0, A.int .u32 0, A.int .u32 0, A.int .u32 0, A.int .u32 0, A.int .u32 0, A.int .u32 0, A.int .u32 0, A.int .u32 0, A.int .u32 0, A.int .u32 0, A.int .u32 0, A.int .u32 0, A.int .u32 0, A.int .u32 0, A.int .u32 0, A.int .u32 0, A.int .u32 0, A.int .u32 0, A.int .u32 0, A.int .u32 0, A.int .u32 0, A.int .u32 0, A.int .u32 0, A.int .u32 0, A.int .u32 0, A.int .u32 0, A.int .u32 0, A.int .u32 0, A.int .u32 0, A.int .u32 0, A.int .u32 0, A.int .u32 0, A.int .u32 0] := ⟨_, rfl⟩
      have hz' : z64 = u32s (List.replicate 64 0) := by rw [hz64]; unfold u32s; rfl
      have hkl : ks.length = 64 := by rw [fw_len hks, kTab_length]
      have hzl : z64.length = 64 := by rw [fw_len hz']; rfl
      conv => whnf
      repeat' (first
        | rw [← hz64]
        | rw [← hz16]
        | rw [← hz8]
        | ((with_reducible refine regx_of ?_ ?_); (· decide +kernel); conv => whnf)
        | ((with_reducible refine growx_pre ?_ ?_); (· exact ⟨_, rfl⟩); conv => whnf)
        | ((with_reducible refine needm_of ?_ ?_); (· first | assumption | exact decide_eq_true (by omega) | exact mkOK_of (by decide) | decide +kernel | (refine decide_eq_true ?_; simp (disch := omega) only [i64w]; omega)); conv => whnf)
        | ((with_reducible refine condm_pos ?_ ?_); (· assumption); conv => whnf)
        | ((with_reducible refine condm_neg ?_ ?_); (· assumption); conv => whnf)
        | ((with_reducible refine forceL_fv (by assumption) ?_); conv => whnf)
        | ((with_reducible refine forceL_rfv (by assumption) ?_); conv => whnf)
        | ((with_reducible refine forceNm_of ?_); conv => whnf)
        | ((with_reducible refine needm_of (fv_lenL (by assumption) (by assumption)) ?_); conv => whnf)
        | ((with_reducible refine optm_var (fv_strL (by assumption) (by assumption)) (fun s hs => ?_)); conv => whnf)
        | ((with_reducible refine forceA_of ?_); conv => whnf)
        | ((with_reducible refine forceL_fw (by assumption) ?_); conv => whnf)
        | ((with_reducible refine forceL_rfw (by assumption) ?_); conv => whnf)
        | ((with_reducible refine forceL_fl (by assumption) ?_); conv => whnf)
        | ((with_reducible refine forceL_rfl (by assumption) ?_); conv => whnf)
        | fail)
      refine needm_of (by rw [hkl, hzl]; rfl) ?_
      conv => whnf
      repeat' (first
        | rw [← hz64]
        | rw [← hz16]
        | rw [← hz8]
        | ((with_reducible refine regx_of ?_ ?_); (· decide +kernel); conv => whnf)
        | ((with_reducible refine growx_pre ?_ ?_); (· exact ⟨_, rfl⟩); conv => whnf)
        | ((with_reducible refine needm_of ?_ ?_); (· first | assumption | exact decide_eq_true (by omega) | exact mkOK_of (by decide) | decide +kernel | (refine decide_eq_true ?_; simp (disch := omega) only [i64w]; omega)); conv => whnf)
        | ((with_reducible refine condm_pos ?_ ?_); (· assumption); conv => whnf)
        | ((with_reducible refine condm_neg ?_ ?_); (· assumption); conv => whnf)
        | ((with_reducible refine forceL_fv (by assumption) ?_); conv => whnf)
        | ((with_reducible refine forceL_rfv (by assumption) ?_); conv => whnf)
        | ((with_reducible refine forceNm_of ?_); conv => whnf)
        | ((with_reducible refine needm_of (fv_lenL (by assumption) (by assumption)) ?_); conv => whnf)
        | ((with_reducible refine optm_var (fv_strL (by assumption) (by assumption)) (fun s hs => ?_)); conv => whnf)
        | ((with_reducible refine forceA_of ?_); conv => whnf)
        | ((with_reducible refine forceL_fw (by assumption) ?_); conv => whnf)
        | ((with_reducible refine forceL_rfw (by assumption) ?_); conv => whnf)
        | ((with_reducible refine forceL_fl (by assumption) ?_); conv => whnf)
        | ((with_reducible refine forceL_rfl (by assumption) ?_); conv => whnf)
        | fail)
      refine forceL_to (store_all (by rw [hkl, hzl])) ?_
      conv => whnf
      repeat' (first
        | rw [← hz16]
        | rw [← hz8]
        | ((with_reducible refine regx_of ?_ ?_); (· decide +kernel); conv => whnf)
        | ((with_reducible refine growx_pre ?_ ?_); (· exact ⟨_, rfl⟩); conv => whnf)
        | ((with_reducible refine needm_of ?_ ?_); (· first | assumption | exact decide_eq_true (by omega) | exact mkOK_of (by decide) | decide +kernel | (refine decide_eq_true ?_; simp (disch := omega) only [i64w]; omega)); conv => whnf)
        | ((with_reducible refine condm_pos ?_ ?_); (· assumption); conv => whnf)
        | ((with_reducible refine condm_neg ?_ ?_); (· assumption); conv => whnf)
        | ((with_reducible refine forceL_fv (by assumption) ?_); conv => whnf)
        | ((with_reducible refine forceL_rfv (by assumption) ?_); conv => whnf)
        | ((with_reducible refine forceNm_of ?_); conv => whnf)
        | ((with_reducible refine needm_of (fv_lenL (by assumption) (by assumption)) ?_); conv => whnf)
        | ((with_reducible refine optm_var (fv_strL (by assumption) (by assumption)) (fun s hs => ?_)); conv => whnf)
        | ((with_reducible refine forceA_of ?_); conv => whnf)
        | ((with_reducible refine forceL_fw (by assumption) ?_); conv => whnf)
        | ((with_reducible refine forceL_rfw (by assumption) ?_); conv => whnf)
        | ((with_reducible refine forceL_fl (by assumption) ?_); conv => whnf)
        | ((with_reducible refine forceL_rfl (by assumption) ?_); conv => whnf)
        | fail)
      refine needm_of (by rw [hsl]; rfl) ?_
      conv => whnf
      refine forceL_to (whole_of (by rw [hsl]; rfl)) ?_
      conv => whnf
      repeat' (first
        | rw [← hz16]
        | rw [← hz8]
        | ((with_reducible refine regx_of ?_ ?_); (· decide +kernel); conv => whnf)
        | ((with_reducible refine growx_pre ?_ ?_); (· exact ⟨_, rfl⟩); conv => whnf)
        | ((with_reducible refine needm_of ?_ ?_); (· first | assumption | exact decide_eq_true (by omega) | exact mkOK_of (by decide) | decide +kernel | (refine decide_eq_true ?_; simp (disch := omega) only [i64w]; omega)); conv => whnf)
        | ((with_reducible refine condm_pos ?_ ?_); (· assumption); conv => whnf)
        | ((with_reducible refine condm_neg ?_ ?_); (· assumption); conv => whnf)
        | ((with_reducible refine forceL_fv (by assumption) ?_); conv => whnf)
        | ((with_reducible refine forceL_rfv (by assumption) ?_); conv => whnf)
        | ((with_reducible refine forceNm_of ?_); conv => whnf)
        | ((with_reducible refine needm_of (fv_lenL (by assumption) (by assumption)) ?_); conv => whnf)
        | ((with_reducible refine optm_var (fv_strL (by assumption) (by assumption)) (fun s hs => ?_)); conv => whnf)
        | ((with_reducible refine forceA_of ?_); conv => whnf)
        | ((with_reducible refine forceL_fw (by assumption) ?_); conv => whnf)
        | ((with_reducible refine forceL_rfw (by assumption) ?_); conv => whnf)
        | ((with_reducible refine forceL_fl (by assumption) ?_); conv => whnf)
        | ((with_reducible refine forceL_rfl (by assumption) ?_); conv => whnf)
        | fail)
      refine needm_of (by rw [hsl, h8l]; rfl) ?_
      conv => whnf
      repeat' (first
        | rw [← hz16]
        | rw [← hz8]
        | ((with_reducible refine regx_of ?_ ?_); (· decide +kernel); conv => whnf)
        | ((with_reducible refine growx_pre ?_ ?_); (· exact ⟨_, rfl⟩); conv => whnf)
        | ((with_reducible refine needm_of ?_ ?_); (· first | assumption | exact decide_eq_true (by omega) | exact mkOK_of (by decide) | decide +kernel | (refine decide_eq_true ?_; simp (disch := omega) only [i64w]; omega)); conv => whnf)
        | ((with_reducible refine condm_pos ?_ ?_); (· assumption); conv => whnf)
        | ((with_reducible refine condm_neg ?_ ?_); (· assumption); conv => whnf)
        | ((with_reducible refine forceL_fv (by assumption) ?_); conv => whnf)
        | ((with_reducible refine forceL_rfv (by assumption) ?_); conv => whnf)
        | ((with_reducible refine forceNm_of ?_); conv => whnf)
        | ((with_reducible refine needm_of (fv_lenL (by assumption) (by assumption)) ?_); conv => whnf)
        | ((with_reducible refine optm_var (fv_strL (by assumption) (by assumption)) (fun s hs => ?_)); conv => whnf)
        | ((with_reducible refine forceA_of ?_); conv => whnf)
        | ((with_reducible refine forceL_fw (by assumption) ?_); conv => whnf)
        | ((with_reducible refine forceL_rfw (by assumption) ?_); conv => whnf)
        | ((with_reducible refine forceL_fl (by assumption) ?_); conv => whnf)
        | ((with_reducible refine forceL_rfl (by assumption) ?_); conv => whnf)
        | fail)
      refine forceL_to (store_all (by rw [hsl, h8l])) ?_
      conv => whnf
      repeat' (first
        | rw [← hz16]
        | rw [← hz8]
        | ((with_reducible refine regx_of ?_ ?_); (· decide +kernel); conv => whnf)
        | ((with_reducible refine growx_pre ?_ ?_); (· exact ⟨_, rfl⟩); conv => whnf)
        | ((with_reducible refine needm_of ?_ ?_); (· first | assumption | exact decide_eq_true (by omega) | exact mkOK_of (by decide) | decide +kernel | (refine decide_eq_true ?_; simp (disch := omega) only [i64w]; omega)); conv => whnf)
        | ((with_reducible refine condm_pos ?_ ?_); (· assumption); conv => whnf)
        | ((with_reducible refine condm_neg ?_ ?_); (· assumption); conv => whnf)
        | ((with_reducible refine forceL_fv (by assumption) ?_); conv => whnf)
        | ((with_reducible refine forceL_rfv (by assumption) ?_); conv => whnf)
        | ((with_reducible refine forceNm_of ?_); conv => whnf)
        | ((with_reducible refine needm_of (fv_lenL (by assumption) (by assumption)) ?_); conv => whnf)
        | ((with_reducible refine optm_var (fv_strL (by assumption) (by assumption)) (fun s hs => ?_)); conv => whnf)
        | ((with_reducible refine forceA_of ?_); conv => whnf)
        | ((with_reducible refine forceL_fw (by assumption) ?_); conv => whnf)
        | ((with_reducible refine forceL_rfw (by assumption) ?_); conv => whnf)
        | ((with_reducible refine forceL_fl (by assumption) ?_); conv => whnf)
        | ((with_reducible refine forceL_rfl (by assumption) ?_); conv => whnf)
        | fail)
      clear hz64 hz16 hz8 hz' hzl
      refine loopx_of (fun m F H => ∃ (i : Nat) (rs ws : List A) (W : List UInt32), i ≤ 64 ∧ m = 64 - i ∧ rs = u32s (rounds B i s).row ∧ ws = u32s W ∧ W.length = 16 ∧ (∀ j, i ≤ j + 16 → j < max i 16 → W[j % 16]? = some (wd B j)) ∧ F = [(2, .a (.ptr 1 0)), (4, .a (.ptr 2 0)), (5, .a (.ptr 3 0)), (7, .a (.ptr 4 0)), (8, .a (.ptr 5 0)), (61, .a (.int .i64 i))] ∧ H = [.cells cs ty mk, .cells ss 33 false, .cells z8 33 false, .cells ws 73 false, .cells ks 69 false, .cells rs 33 false]) 64 ?_ ?_
      · refine Into.weak [0, 1, 2, 3, 4, 5] _ _ ⟨0, ss, ws, W, by omega, rfl, by rw [rounds_0]; exact hss, hws, hW, fun j _ hj => ?_, rfl, rfl⟩ ⟨rfl, rfl, rfl, rfl, rfl, rfl, trivial⟩ ⟨ren_fl hcs _ _ _, ren_fw hss _ _ _, ren_fw hy _ _ _, ren_fw hws _ _ _, ren_fw hks _ _ _, ren_fw hss _ _ _, trivial⟩ ?_
        · have hj : j < 16 := by simpa using hj
          rw [Nat.mod_eq_of_lt hj]
          exact hWi j hj
        · simp [nodupb, baseb, Ob.okb, frmOk, V.okb, A.okb, hcs.all, all_fw hss, all_fw hy, all_fw hks, all_fw hws] <;> decide
      · clear hws hW hWi hi h
        rintro m F H ⟨i, rs, ws, W, hi, rfl, hrs, hws, hW, hWi, rfl, rfl⟩
        conv => whnf
        refine condm_of (fun h => ?_) (fun h => ?_)
        · have hi64 : i < 64 := by have := of_decide_eq_true h; omega
          have e4 : IntKind.i64.wrap (↑i + 1) = ((i + 1 : Nat) : Int) := by rw [i64w (by omega) (by omega)]; rfl
          have e16 : (i : Int).tmod 16 = ((i % 16 : Nat) : Int) := tmodN i 16
          have hrd := rounds_succ B i s
          generalize rounds B i s = r at *
          have hki : kTab[i]? = some (kTab.getD i 0) := by
            rw [List.getD_eq_getElem?_getD, List.getElem?_eq_getElem (by rw [kTab_length]; omega)]; rfl
          have hgk : ks[0 + (i : Int).toNat * Try.prog.types[32].size]? = some (.int .u32 ((kTab.getD i 0).toNat : Int)) := by
            rw [s32, Nat.mul_one, Nat.zero_add, Int.toNat_natCast]; exact fw_get hks hki
          generalize kTab.getD i 0 = k at *
          conv => whnf
          repeat' (first
            | ((with_reducible refine regx_of ?_ ?_); (· decide +kernel); conv => whnf)
            | ((with_reducible refine growx_pre ?_ ?_); (· exact ⟨_, rfl⟩); conv => whnf)
            | ((with_reducible refine needm_of ?_ ?_); (· first | assumption | exact decide_eq_true (by omega) | exact mkOK_of (by decide) | decide +kernel | (refine decide_eq_true ?_; simp (disch := omega) only [i64w]; omega)); conv => whnf)
            | ((with_reducible refine condm_pos ?_ ?_); (· assumption); conv => whnf)
            | ((with_reducible refine condm_neg ?_ ?_); (· assumption); conv => whnf)
            | ((with_reducible refine forceL_fv (by assumption) ?_); conv => whnf)
            | ((with_reducible refine forceL_rfv (by assumption) ?_); conv => whnf)
            | ((with_reducible refine forceNm_of ?_); conv => whnf)
            | ((with_reducible refine needm_of (fv_lenL (by assumption) (by assumption)) ?_); conv => whnf)
            | ((with_reducible refine optm_var (fv_strL (by assumption) (by assumption)) (fun s hs => ?_)); conv => whnf)
            | ((with_reducible refine forceA_of ?_); conv => whnf)
            | ((with_reducible refine forceL_fw (by assumption) ?_); conv => whnf)
            | ((with_reducible refine forceL_rfw (by assumption) ?_); conv => whnf)
            | ((with_reducible refine forceL_fl (by assumption) ?_); conv => whnf)
            | ((with_reducible refine forceL_rfl (by assumption) ?_); conv => whnf)
            | ((with_reducible refine optm_of hgk ?_); conv => whnf)
            | fail)
          refine condm_of (fun h => ?_) (fun h => ?_)
          · have hi16 : 16 ≤ i := by have := of_decide_eq_true h; omega
            have ew1 : (IntKind.i64.wrap (↑i + 1)).tmod 16 = (((i + 1) % 16 : Nat) : Int) := by rw [e4]; exact tmodN (i + 1) 16
            have ew14 : (IntKind.i64.wrap (↑i + 14)).tmod 16 = (((i + 14) % 16 : Nat) : Int) := by rw [i64w (by omega) (by omega)]; exact tmodN (i + 14) 16
            have ew9 : (IntKind.i64.wrap (↑i + 9)).tmod 16 = (((i + 9) % 16 : Nat) : Int) := by rw [i64w (by omega) (by omega)]; exact tmodN (i + 9) 16
            have hx : W[(i + 1) % 16]? = some (wd B (i - 15)) := by rw [show (i + 1) % 16 = (i - 15) % 16 by omega]; exact hWi _ (by omega) (by omega)
            have hyy : W[(i + 14) % 16]? = some (wd B (i - 2)) := by rw [show (i + 14) % 16 = (i - 2) % 16 by omega]; exact hWi _ (by omega) (by omega)
            have h16 : W[i % 16]? = some (wd B (i - 16)) := by rw [show i % 16 = (i - 16) % 16 by omega]; exact hWi _ (by omega) (by omega)
            have h7 : W[(i + 9) % 16]? = some (wd B (i - 7)) := by rw [show (i + 9) % 16 = (i - 7) % 16 by omega]; exact hWi _ (by omega) (by omega)
            have hgl : ∀ {ws : List A} {W : List UInt32} {n : Nat} {x : UInt32}, ws = u32s W → W[n]? = some x → ws[0 + ((n : Nat) : Int).toNat * Try.prog.types[32].size]? = some (.int .u32 (x.toNat : Int)) := by
              intro ws W n x hws hx
              rw [s32, Nat.mul_one, Nat.zero_add, Int.toNat_natCast]
              exact fw_get hws hx
            have hwd := wd_ge (B := B) (n := i) (by omega)
            have hnx : ∀ v1 j, i + 1 ≤ j + 16 → j < max (i + 1) 16 → ((W.set (i % 16) v1).set (i % 16) (wd B i))[j % 16]? = some (wd B j) := by
              intro v1 j h1 h2
              by_cases e : j = i
              · subst e
                rw [List.getElem?_set, if_pos rfl, if_pos (by rw [List.length_set]; omega)]
              · rw [List.getElem?_set, if_neg (by omega), List.getElem?_set, if_neg (by omega)]
                exact hWi j (by omega) (by omega)
            generalize wd B (i - 15) = x at *
            generalize wd B (i - 2) = y at *
            generalize wd B (i - 16) = w16 at *
            generalize wd B (i - 7) = w7 at *
            have hwl : ws.length = 16 := by rw [fw_len hws, hW]
            conv => whnf
            repeat' (first
              | rw [e16]
              | rw [ew1]
              | rw [ew14]
              | ((with_reducible refine regx_of ?_ ?_); (· decide +kernel); conv => whnf)
              | ((with_reducible refine growx_pre ?_ ?_); (· exact ⟨_, rfl⟩); conv => whnf)
              | ((with_reducible refine needm_of ?_ ?_); (· first | assumption | exact decide_eq_true (by omega) | exact mkOK_of (by decide) | decide +kernel | (refine decide_eq_true ?_; simp (disch := omega) only [i64w]; omega)); conv => whnf)
              | ((with_reducible refine condm_pos ?_ ?_); (· assumption); conv => whnf)
              | ((with_reducible refine condm_neg ?_ ?_); (· assumption); conv => whnf)
              | ((with_reducible refine forceL_fv (by assumption) ?_); conv => whnf)
              | ((with_reducible refine forceL_rfv (by assumption) ?_); conv => whnf)
              | ((with_reducible refine forceNm_of ?_); conv => whnf)
              | ((with_reducible refine needm_of (fv_lenL (by assumption) (by assumption)) ?_); conv => whnf)
              | ((with_reducible refine optm_var (fv_strL (by assumption) (by assumption)) (fun s hs => ?_)); conv => whnf)
              | ((with_reducible refine forceA_of ?_); conv => whnf)
              | ((with_reducible refine forceL_fw (by assumption) ?_); conv => whnf)
              | ((with_reducible refine forceL_rfw (by assumption) ?_); conv => whnf)
              | ((with_reducible refine forceL_fl (by assumption) ?_); conv => whnf)
              | ((with_reducible refine forceL_rfl (by assumption) ?_); conv => whnf)
              | ((refine Go.Eng.Fn.frame [] (by rfl) (by exact trivial) (by rfl) (rot46 _ 7 _ rfl (by decide) (by decide) (fun r hr => ?_))); subst hr; conv => whnf)
              | ((refine Go.Eng.Fn.frame [] (by rfl) (by exact trivial) (by rfl) (rot46 _ 18 _ rfl (by decide) (by decide) (fun r hr => ?_))); subst hr; conv => whnf)
              | ((refine Go.Eng.Fn.frame [] (by rfl) (by exact trivial) (by rfl) (rot46 _ 17 _ rfl (by decide) (by decide) (fun r hr => ?_))); subst hr; conv => whnf)
              | ((refine Go.Eng.Fn.frame [] (by rfl) (by exact trivial) (by rfl) (rot46 _ 19 _ rfl (by decide) (by decide) (fun r hr => ?_))); subst hr; conv => whnf)
              | ((refine Go.Eng.Fn.frame [] (by rfl) (by exact trivial) (by rfl) (rot46 _ 6 _ rfl (by decide) (by decide) (fun r hr => ?_))); subst hr; conv => whnf)
              | ((refine Go.Eng.Fn.frame [] (by rfl) (by exact trivial) (by rfl) (rot46 _ 11 _ rfl (by decide) (by decide) (fun r hr => ?_))); subst hr; conv => whnf)
              | ((refine Go.Eng.Fn.frame [] (by rfl) (by exact trivial) (by rfl) (rot46 _ 25 _ rfl (by decide) (by decide) (fun r hr => ?_))); subst hr; conv => whnf)
              | ((refine Go.Eng.Fn.frame [] (by rfl) (by exact trivial) (by rfl) (rot46 _ 2 _ rfl (by decide) (by decide) (fun r hr => ?_))); subst hr; conv => whnf)
              | ((refine Go.Eng.Fn.frame [] (by rfl) (by exact trivial) (by rfl) (rot46 _ 13 _ rfl (by decide) (by decide) (fun r hr => ?_))); subst hr; conv => whnf)
              | ((refine Go.Eng.Fn.frame [] (by rfl) (by exact trivial) (by rfl) (rot46 _ 22 _ rfl (by decide) (by decide) (fun r hr => ?_))); subst hr; conv => whnf)
              | ((with_reducible refine optm_of (hgl hws hx) ?_); conv => whnf)
              | ((with_reducible refine optm_of (hgl hws hyy) ?_); conv => whnf)
              | ((with_reducible refine optm_of (hgl hws h16) ?_); conv => whnf)
              | fail)
            rw [w_shr x (k := 3) (n := 3) rfl]
            repeat (first
              | rw [w_andNot]
              | rw [w_xor]
              | rw [w_and]
              | rw [w_or]
              | rw [w_add]
              | fail)
            generalize hv1 : w16 + (rotr x 7 ^^^ rotr x 18 ^^^ shr x 3) = v1 at *
            refine needm_of (by rw [hwl, s32]; simp; omega) ?_
            conv => whnf
            repeat' (first
              | ((with_reducible refine regx_of ?_ ?_); (· decide +kernel); conv => whnf)
              | ((with_reducible refine growx_pre ?_ ?_); (· exact ⟨_, rfl⟩); conv => whnf)
              | ((with_reducible refine needm_of ?_ ?_); (· first | assumption | exact decide_eq_true (by omega) | exact mkOK_of (by decide) | decide +kernel | (refine decide_eq_true ?_; simp (disch := omega) only [i64w]; omega)); conv => whnf)
              | ((with_reducible refine condm_pos ?_ ?_); (· assumption); conv => whnf)
              | ((with_reducible refine condm_neg ?_ ?_); (· assumption); conv => whnf)
              | ((with_reducible refine forceL_fv (by assumption) ?_); conv => whnf)
              | ((with_reducible refine forceL_rfv (by assumption) ?_); conv => whnf)
              | ((with_reducible refine forceNm_of ?_); conv => whnf)
              | ((with_reducible refine needm_of (fv_lenL (by assumption) (by assumption)) ?_); conv => whnf)
              | ((with_reducible refine optm_var (fv_strL (by assumption) (by assumption)) (fun s hs => ?_)); conv => whnf)
              | ((with_reducible refine forceA_of ?_); conv => whnf)
              | ((with_reducible refine forceL_fw (by assumption) ?_); conv => whnf)
              | ((with_reducible refine forceL_rfw (by assumption) ?_); conv => whnf)
              | ((with_reducible refine forceL_fl (by assumption) ?_); conv => whnf)
              | ((with_reducible refine forceL_rfl (by assumption) ?_); conv => whnf)
              | fail)
            refine forceL_var (fw_setN hws (n := i % 16) (by rw [s32, Nat.zero_add, Nat.mul_one, Int.toNat_natCast])) (fun ws1 hws1 => ?_)
            have hwl1 : ws1.length = 16 := by rw [fw_len hws1, List.length_set, hW]
            have g1 : (W.set (i % 16) v1)[i % 16]? = some v1 := by rw [List.getElem?_set, if_pos rfl, if_pos (by omega)]
            have g7 : (W.set (i % 16) v1)[(i + 9) % 16]? = some w7 := by rw [List.getElem?_set, if_neg (by omega)]; exact h7
            conv => whnf
            repeat' (first
              | rw [e16]
              | rw [ew9]
              | ((with_reducible refine regx_of ?_ ?_); (· decide +kernel); conv => whnf)
              | ((with_reducible refine growx_pre ?_ ?_); (· exact ⟨_, rfl⟩); conv => whnf)
              | ((with_reducible refine needm_of ?_ ?_); (· first | assumption | exact decide_eq_true (by omega) | exact mkOK_of (by decide) | decide +kernel | (refine decide_eq_true ?_; simp (disch := omega) only [i64w]; omega)); conv => whnf)
              | ((with_reducible refine condm_pos ?_ ?_); (· assumption); conv => whnf)
              | ((with_reducible refine condm_neg ?_ ?_); (· assumption); conv => whnf)
              | ((with_reducible refine forceL_fv (by assumption) ?_); conv => whnf)
              | ((with_reducible refine forceL_rfv (by assumption) ?_); conv => whnf)
              | ((with_reducible refine forceNm_of ?_); conv => whnf)
              | ((with_reducible refine needm_of (fv_lenL (by assumption) (by assumption)) ?_); conv => whnf)
              | ((with_reducible refine optm_var (fv_strL (by assumption) (by assumption)) (fun s hs => ?_)); conv => whnf)
              | ((with_reducible refine forceA_of ?_); conv => whnf)
              | ((with_reducible refine forceL_fw (by assumption) ?_); conv => whnf)
              | ((with_reducible refine forceL_rfw (by assumption) ?_); conv => whnf)
              | ((with_reducible refine forceL_fl (by assumption) ?_); conv => whnf)
              | ((with_reducible refine forceL_rfl (by assumption) ?_); conv => whnf)
              | ((refine Go.Eng.Fn.frame [] (by rfl) (by exact trivial) (by rfl) (rot46 _ 7 _ rfl (by decide) (by decide) (fun r hr => ?_))); subst hr; conv => whnf)
              | ((refine Go.Eng.Fn.frame [] (by rfl) (by exact trivial) (by rfl) (rot46 _ 18 _ rfl (by decide) (by decide) (fun r hr => ?_))); subst hr; conv => whnf)
              | ((refine Go.Eng.Fn.frame [] (by rfl) (by exact trivial) (by rfl) (rot46 _ 17 _ rfl (by decide) (by decide) (fun r hr => ?_))); subst hr; conv => whnf)
              | ((refine Go.Eng.Fn.frame [] (by rfl) (by exact trivial) (by rfl) (rot46 _ 19 _ rfl (by decide) (by decide) (fun r hr => ?_))); subst hr; conv => whnf)
              | ((refine Go.Eng.Fn.frame [] (by rfl) (by exact trivial) (by rfl) (rot46 _ 6 _ rfl (by decide) (by decide) (fun r hr => ?_))); subst hr; conv => whnf)
              | ((refine Go.Eng.Fn.frame [] (by rfl) (by exact trivial) (by rfl) (rot46 _ 11 _ rfl (by decide) (by decide) (fun r hr => ?_))); subst hr; conv => whnf)
              | ((refine Go.Eng.Fn.frame [] (by rfl) (by exact trivial) (by rfl) (rot46 _ 25 _ rfl (by decide) (by decide) (fun r hr => ?_))); subst hr; conv => whnf)
              | ((refine Go.Eng.Fn.frame [] (by rfl) (by exact trivial) (by rfl) (rot46 _ 2 _ rfl (by decide) (by decide) (fun r hr => ?_))); subst hr; conv => whnf)
              | ((refine Go.Eng.Fn.frame [] (by rfl) (by exact trivial) (by rfl) (rot46 _ 13 _ rfl (by decide) (by decide) (fun r hr => ?_))); subst hr; conv => whnf)
              | ((refine Go.Eng.Fn.frame [] (by rfl) (by exact trivial) (by rfl) (rot46 _ 22 _ rfl (by decide) (by decide) (fun r hr => ?_))); subst hr; conv => whnf)
              | ((with_reducible refine optm_of (hgl hws1 g1) ?_); conv => whnf)
              | ((with_reducible refine optm_of (hgl hws1 g7) ?_); conv => whnf)
              | fail)
            rw [w_shr y (k := 10) (n := 10) rfl]
            repeat (first
              | rw [w_andNot]
              | rw [w_xor]
              | rw [w_and]
              | rw [w_or]
              | rw [w_add]
              | fail)
            have hv2 : v1 + (w7 + (rotr y 17 ^^^ rotr y 19 ^^^ shr y 10)) = wd B i := by
              rw [hwd, ← hv1]
              unfold lo0 lo1
              ac_rfl
            rw [hv2]
            refine needm_of (by rw [hwl1, s32]; simp; omega) ?_
            conv => whnf
            repeat' (first
              | ((with_reducible refine regx_of ?_ ?_); (· decide +kernel); conv => whnf)
              | ((with_reducible refine growx_pre ?_ ?_); (· exact ⟨_, rfl⟩); conv => whnf)
              | ((with_reducible refine needm_of ?_ ?_); (· first | assumption | exact decide_eq_true (by omega) | exact mkOK_of (by decide) | decide +kernel | (refine decide_eq_true ?_; simp (disch := omega) only [i64w]; omega)); conv => whnf)
              | ((with_reducible refine condm_pos ?_ ?_); (· assumption); conv => whnf)
              | ((with_reducible refine condm_neg ?_ ?_); (· assumption); conv => whnf)
              | ((with_reducible refine forceL_fv (by assumption) ?_); conv => whnf)
              | ((with_reducible refine forceL_rfv (by assumption) ?_); conv => whnf)
              | ((with_reducible refine forceNm_of ?_); conv => whnf)
              | ((with_reducible refine needm_of (fv_lenL (by assumption) (by assumption)) ?_); conv => whnf)
              | ((with_reducible refine optm_var (fv_strL (by assumption) (by assumption)) (fun s hs => ?_)); conv => whnf)
              | ((with_reducible refine forceA_of ?_); conv => whnf)
              | ((with_reducible refine forceL_fw (by assumption) ?_); conv => whnf)
              | ((with_reducible refine forceL_rfw (by assumption) ?_); conv => whnf)
              | ((with_reducible refine forceL_fl (by assumption) ?_); conv => whnf)
              | ((with_reducible refine forceL_rfl (by assumption) ?_); conv => whnf)
              | fail)
            refine forceL_var (fw_setN hws1 (n := i % 16) (by rw [s32, Nat.zero_add, Nat.mul_one, Int.toNat_natCast])) (fun ws2 hws2 => ?_)
            replace hnx := hnx v1
            have hW2 : ((W.set (i % 16) v1).set (i % 16) (wd B i)).length = 16 := by rw [List.length_set, List.length_set, hW]
            have hwi : ((W.set (i % 16) v1).set (i % 16) (wd B i))[i % 16]? = some (wd B i) := by rw [List.getElem?_set, if_pos rfl, if_pos (by rw [List.length_set]; omega)]
            generalize (W.set (i % 16) v1).set (i % 16) (wd B i) = W2 at *
            have hwn := hnx
            clear hnx hwd hv2 hwl1 g1 g7 hws1 hgl
            generalize wd B i = w at *
            conv => whnf
            have hgw : ws2[0 + (((i % 16 : Nat) : Int)).toNat * Try.prog.types[32].size]? = some (.int .u32 (w.toNat : Int)) := by
              rw [s32, Nat.mul_one, Nat.zero_add, Int.toNat_natCast]
              exact fw_get hws2 hwi
            repeat' (first
              | rw [e16]
              | ((with_reducible refine regx_of ?_ ?_); (· decide +kernel); conv => whnf)
              | ((with_reducible refine growx_pre ?_ ?_); (· exact ⟨_, rfl⟩); conv => whnf)
              | ((with_reducible refine needm_of ?_ ?_); (· first | assumption | exact decide_eq_true (by omega) | exact mkOK_of (by decide) | decide +kernel | (refine decide_eq_true ?_; simp (disch := omega) only [i64w]; omega)); conv => whnf)
              | ((with_reducible refine condm_pos ?_ ?_); (· assumption); conv => whnf)
              | ((with_reducible refine condm_neg ?_ ?_); (· assumption); conv => whnf)
              | ((with_reducible refine forceL_fv (by assumption) ?_); conv => whnf)
              | ((with_reducible refine forceL_rfv (by assumption) ?_); conv => whnf)
              | ((with_reducible refine forceNm_of ?_); conv => whnf)
              | ((with_reducible refine needm_of (fv_lenL (by assumption) (by assumption)) ?_); conv => whnf)
              | ((with_reducible refine optm_var (fv_strL (by assumption) (by assumption)) (fun s hs => ?_)); conv => whnf)
              | ((with_reducible refine forceA_of ?_); conv => whnf)
              | ((with_reducible refine forceL_fw (by assumption) ?_); conv => whnf)
              | ((with_reducible refine forceL_rfw (by assumption) ?_); conv => whnf)
              | ((with_reducible refine forceL_fl (by assumption) ?_); conv => whnf)
              | ((with_reducible refine forceL_rfl (by assumption) ?_); conv => whnf)
              | ((with_reducible refine optm_of (fw_get hrs (x := r.a) ?_) ?_); (· rfl); conv => whnf)
              | ((with_reducible refine optm_of (fw_get hrs (x := r.b) ?_) ?_); (· rfl); conv => whnf)
              | ((with_reducible refine optm_of (fw_get hrs (x := r.c) ?_) ?_); (· rfl); conv => whnf)
              | ((with_reducible refine optm_of (fw_get hrs (x := r.d) ?_) ?_); (· rfl); conv => whnf)
              | ((with_reducible refine optm_of (fw_get hrs (x := r.e) ?_) ?_); (· rfl); conv => whnf)
              | ((with_reducible refine optm_of (fw_get hrs (x := r.f) ?_) ?_); (· rfl); conv => whnf)
              | ((with_reducible refine optm_of (fw_get hrs (x := r.g) ?_) ?_); (· rfl); conv => whnf)
              | ((with_reducible refine optm_of (fw_get hrs (x := r.h) ?_) ?_); (· rfl); conv => whnf)
              | ((refine Go.Eng.Fn.frame [] (by rfl) (by exact trivial) (by rfl) (rot46 _ 7 _ rfl (by decide) (by decide) (fun r hr => ?_))); subst hr; conv => whnf)
              | ((refine Go.Eng.Fn.frame [] (by rfl) (by exact trivial) (by rfl) (rot46 _ 18 _ rfl (by decide) (by decide) (fun r hr => ?_))); subst hr; conv => whnf)
              | ((refine Go.Eng.Fn.frame [] (by rfl) (by exact trivial) (by rfl) (rot46 _ 17 _ rfl (by decide) (by decide) (fun r hr => ?_))); subst hr; conv => whnf)
              | ((refine Go.Eng.Fn.frame [] (by rfl) (by exact trivial) (by rfl) (rot46 _ 19 _ rfl (by decide) (by decide) (fun r hr => ?_))); subst hr; conv => whnf)
              | ((refine Go.Eng.Fn.frame [] (by rfl) (by exact trivial) (by rfl) (rot46 _ 6 _ rfl (by decide) (by decide) (fun r hr => ?_))); subst hr; conv => whnf)
              | ((refine Go.Eng.Fn.frame [] (by rfl) (by exact trivial) (by rfl) (rot46 _ 11 _ rfl (by decide) (by decide) (fun r hr => ?_))); subst hr; conv => whnf)
              | ((refine Go.Eng.Fn.frame [] (by rfl) (by exact trivial) (by rfl) (rot46 _ 25 _ rfl (by decide) (by decide) (fun r hr => ?_))); subst hr; conv => whnf)
              | ((refine Go.Eng.Fn.frame [] (by rfl) (by exact trivial) (by rfl) (rot46 _ 2 _ rfl (by decide) (by decide) (fun r hr => ?_))); subst hr; conv => whnf)
              | ((refine Go.Eng.Fn.frame [] (by rfl) (by exact trivial) (by rfl) (rot46 _ 13 _ rfl (by decide) (by decide) (fun r hr => ?_))); subst hr; conv => whnf)
              | ((refine Go.Eng.Fn.frame [] (by rfl) (by exact trivial) (by rfl) (rot46 _ 22 _ rfl (by decide) (by decide) (fun r hr => ?_))); subst hr; conv => whnf)
              | ((with_reducible refine optm_of hgw ?_); conv => whnf)
              | fail)
            repeat (first
              | rw [w_andNot]
              | rw [w_xor]
              | rw [w_and]
              | rw [w_or]
              | rw [w_add]
              | fail)
            have ht : r.h + k + w + (r.e &&& r.f ||| r.g &&& ~~~r.e) + (rotr r.e 6 ^^^ rotr r.e 11 ^^^ rotr r.e 25) = tOf r.e r.f r.g r.h k w := t_eq _ _ _ _ _ _
            have hu : (r.a &&& r.b ||| r.a &&& r.c ||| r.b &&& r.c) + (rotr r.a 2 ^^^ rotr r.a 13 ^^^ rotr r.a 22) = uOf r.a r.b r.c := u_eq _ _ _
            rw [ht, hu]
            unfold rnd at hrd
            generalize tOf r.e r.f r.g r.h k w = t at *
            generalize uOf r.a r.b r.c = u at *
            have hrl : rs.length = 8 := by rw [fw_len hrs]; rfl
            repeat' (first
              | ((with_reducible refine regx_of ?_ ?_); (· decide +kernel); conv => whnf)
              | ((with_reducible refine growx_pre ?_ ?_); (· exact ⟨_, rfl⟩); conv => whnf)
              | ((with_reducible refine needm_of ?_ ?_); (· first | assumption | exact decide_eq_true (by omega) | exact mkOK_of (by decide) | decide +kernel | (refine decide_eq_true ?_; simp (disch := omega) only [i64w]; omega)); conv => whnf)
              | ((with_reducible refine condm_pos ?_ ?_); (· assumption); conv => whnf)
              | ((with_reducible refine condm_neg ?_ ?_); (· assumption); conv => whnf)
              | ((with_reducible refine forceL_fv (by assumption) ?_); conv => whnf)
              | ((with_reducible refine forceL_rfv (by assumption) ?_); conv => whnf)
              | ((with_reducible refine forceNm_of ?_); conv => whnf)
              | ((with_reducible refine needm_of (fv_lenL (by assumption) (by assumption)) ?_); conv => whnf)
              | ((with_reducible refine optm_var (fv_strL (by assumption) (by assumption)) (fun s hs => ?_)); conv => whnf)
              | ((with_reducible refine forceA_of ?_); conv => whnf)
              | ((with_reducible refine forceL_fw (by assumption) ?_); conv => whnf)
              | ((with_reducible refine forceL_rfw (by assumption) ?_); conv => whnf)
              | ((with_reducible refine forceL_fl (by assumption) ?_); conv => whnf)
              | ((with_reducible refine forceL_rfl (by assumption) ?_); conv => whnf)
              | fail)
            refine needm_of (by rw [hrl]; rfl) ?_
            conv => whnf
            repeat' (first
              | ((with_reducible refine regx_of ?_ ?_); (· decide +kernel); conv => whnf)
              | ((with_reducible refine growx_pre ?_ ?_); (· exact ⟨_, rfl⟩); conv => whnf)
              | ((with_reducible refine needm_of ?_ ?_); (· first | assumption | exact decide_eq_true (by omega) | exact mkOK_of (by decide) | decide +kernel | (refine decide_eq_true ?_; simp (disch := omega) only [i64w]; omega)); conv => whnf)
              | ((with_reducible refine condm_pos ?_ ?_); (· assumption); conv => whnf)
              | ((with_reducible refine condm_neg ?_ ?_); (· assumption); conv => whnf)
              | ((with_reducible refine forceL_fv (by assumption) ?_); conv => whnf)
              | ((with_reducible refine forceL_rfv (by assumption) ?_); conv => whnf)
              | ((with_reducible refine forceNm_of ?_); conv => whnf)
              | ((with_reducible refine needm_of (fv_lenL (by assumption) (by assumption)) ?_); conv => whnf)
              | ((with_reducible refine optm_var (fv_strL (by assumption) (by assumption)) (fun s hs => ?_)); conv => whnf)
              | ((with_reducible refine forceA_of ?_); conv => whnf)
              | ((with_reducible refine forceL_fw (by assumption) ?_); conv => whnf)
              | ((with_reducible refine forceL_rfw (by assumption) ?_); conv => whnf)
              | ((with_reducible refine forceL_fl (by assumption) ?_); conv => whnf)
              | ((with_reducible refine forceL_rfl (by assumption) ?_); conv => whnf)
              | fail)
            refine needm_of (by rw [List.length_drop, List.length_take, hrl]; rfl) ?_
            conv => whnf
            repeat' (first
              | ((with_reducible refine regx_of ?_ ?_); (· decide +kernel); conv => whnf)
              | ((with_reducible refine growx_pre ?_ ?_); (· exact ⟨_, rfl⟩); conv => whnf)
              | ((with_reducible refine needm_of ?_ ?_); (· first | assumption | exact decide_eq_true (by omega) | exact mkOK_of (by decide) | decide +kernel | (refine decide_eq_true ?_; simp (disch := omega) only [i64w]; omega)); conv => whnf)
              | ((with_reducible refine condm_pos ?_ ?_); (· assumption); conv => whnf)
              | ((with_reducible refine condm_neg ?_ ?_); (· assumption); conv => whnf)
              | ((with_reducible refine forceL_fv (by assumption) ?_); conv => whnf)
              | ((with_reducible refine forceL_rfv (by assumption) ?_); conv => whnf)
              | ((with_reducible refine forceNm_of ?_); conv => whnf)
              | ((with_reducible refine needm_of (fv_lenL (by assumption) (by assumption)) ?_); conv => whnf)
              | ((with_reducible refine optm_var (fv_strL (by assumption) (by assumption)) (fun s hs => ?_)); conv => whnf)
              | ((with_reducible refine forceA_of ?_); conv => whnf)
              | ((with_reducible refine forceL_fw (by assumption) ?_); conv => whnf)
              | ((with_reducible refine forceL_rfw (by assumption) ?_); conv => whnf)
              | ((with_reducible refine forceL_fl (by assumption) ?_); conv => whnf)
              | ((with_reducible refine forceL_rfl (by assumption) ?_); conv => whnf)
              | fail)
            refine forceL_var (l' := u32s [r.a, r.a, r.b, r.c, r.d, r.e, r.f, r.g]) ?_ (fun rs1 hrs1 => ?_)
            · rw [hrs]
              unfold u32s
              rfl
            have hrl1 : rs1.length = 8 := by rw [fw_len hrs1]; rfl
            conv => whnf
            repeat' (first
              | ((with_reducible refine regx_of ?_ ?_); (· decide +kernel); conv => whnf)
              | ((with_reducible refine growx_pre ?_ ?_); (· exact ⟨_, rfl⟩); conv => whnf)
              | ((with_reducible refine needm_of ?_ ?_); (· first | assumption | exact decide_eq_true (by omega) | exact mkOK_of (by decide) | decide +kernel | (refine decide_eq_true ?_; simp (disch := omega) only [i64w]; omega)); conv => whnf)
              | ((with_reducible refine condm_pos ?_ ?_); (· assumption); conv => whnf)
              | ((with_reducible refine condm_neg ?_ ?_); (· assumption); conv => whnf)
              | ((with_reducible refine forceL_fv (by assumption) ?_); conv => whnf)
              | ((with_reducible refine forceL_rfv (by assumption) ?_); conv => whnf)
              | ((with_reducible refine forceNm_of ?_); conv => whnf)
              | ((with_reducible refine needm_of (fv_lenL (by assumption) (by assumption)) ?_); conv => whnf)
              | ((with_reducible refine optm_var (fv_strL (by assumption) (by assumption)) (fun s hs => ?_)); conv => whnf)
              | ((with_reducible refine forceA_of ?_); conv => whnf)
              | ((with_reducible refine forceL_fw (by assumption) ?_); conv => whnf)
              | ((with_reducible refine forceL_rfw (by assumption) ?_); conv => whnf)
              | ((with_reducible refine forceL_fl (by assumption) ?_); conv => whnf)
              | ((with_reducible refine forceL_rfl (by assumption) ?_); conv => whnf)
              | ((with_reducible refine optm_of (fw_get hrs1 (x := r.d) ?_) ?_); (· rfl); conv => whnf)
              | fail)
            rw [w_add]
            refine needm_of (by rw [hrl1]; rfl) ?_
            conv => whnf
            repeat' (first
              | ((with_reducible refine regx_of ?_ ?_); (· decide +kernel); conv => whnf)
              | ((with_reducible refine growx_pre ?_ ?_); (· exact ⟨_, rfl⟩); conv => whnf)
              | ((with_reducible refine needm_of ?_ ?_); (· first | assumption | exact decide_eq_true (by omega) | exact mkOK_of (by decide) | decide +kernel | (refine decide_eq_true ?_; simp (disch := omega) only [i64w]; omega)); conv => whnf)
              | ((with_reducible refine condm_pos ?_ ?_); (· assumption); conv => whnf)
              | ((with_reducible refine condm_neg ?_ ?_); (· assumption); conv => whnf)
              | ((with_reducible refine forceL_fv (by assumption) ?_); conv => whnf)
              | ((with_reducible refine forceL_rfv (by assumption) ?_); conv => whnf)
              | ((with_reducible refine forceNm_of ?_); conv => whnf)
              | ((with_reducible refine needm_of (fv_lenL (by assumption) (by assumption)) ?_); conv => whnf)
              | ((with_reducible refine optm_var (fv_strL (by assumption) (by assumption)) (fun s hs => ?_)); conv => whnf)
              | ((with_reducible refine forceA_of ?_); conv => whnf)
              | ((with_reducible refine forceL_fw (by assumption) ?_); conv => whnf)
              | ((with_reducible refine forceL_rfw (by assumption) ?_); conv => whnf)
              | ((with_reducible refine forceL_fl (by assumption) ?_); conv => whnf)
              | ((with_reducible refine forceL_rfl (by assumption) ?_); conv => whnf)
              | fail)
            refine forceL_var (fw_setN hrs1 (n := 4) rfl) (fun rs2 hrs2 => ?_)
            have hrl2 : rs2.length = 8 := by rw [fw_len hrs2]; rfl
            conv => whnf
            repeat' (first
              | ((with_reducible refine regx_of ?_ ?_); (· decide +kernel); conv => whnf)
              | ((with_reducible refine growx_pre ?_ ?_); (· exact ⟨_, rfl⟩); conv => whnf)
              | ((with_reducible refine needm_of ?_ ?_); (· first | assumption | exact decide_eq_true (by omega) | exact mkOK_of (by decide) | decide +kernel | (refine decide_eq_true ?_; simp (disch := omega) only [i64w]; omega)); conv => whnf)
              | ((with_reducible refine condm_pos ?_ ?_); (· assumption); conv => whnf)
              | ((with_reducible refine condm_neg ?_ ?_); (· assumption); conv => whnf)
              | ((with_reducible refine forceL_fv (by assumption) ?_); conv => whnf)
              | ((with_reducible refine forceL_rfv (by assumption) ?_); conv => whnf)
              | ((with_reducible refine forceNm_of ?_); conv => whnf)
              | ((with_reducible refine needm_of (fv_lenL (by assumption) (by assumption)) ?_); conv => whnf)
              | ((with_reducible refine optm_var (fv_strL (by assumption) (by assumption)) (fun s hs => ?_)); conv => whnf)
              | ((with_reducible refine forceA_of ?_); conv => whnf)
              | ((with_reducible refine forceL_fw (by assumption) ?_); conv => whnf)
              | ((with_reducible refine forceL_rfw (by assumption) ?_); conv => whnf)
              | ((with_reducible refine forceL_fl (by assumption) ?_); conv => whnf)
              | ((with_reducible refine forceL_rfl (by assumption) ?_); conv => whnf)
              | fail)
            rw [w_add]
            refine needm_of (by rw [hrl2]; rfl) ?_
            conv => whnf
            repeat' (first
              | ((with_reducible refine regx_of ?_ ?_); (· decide +kernel); conv => whnf)
              | ((with_reducible refine growx_pre ?_ ?_); (· exact ⟨_, rfl⟩); conv => whnf)
              | ((with_reducible refine needm_of ?_ ?_); (· first | assumption | exact decide_eq_true (by omega) | exact mkOK_of (by decide) | decide +kernel | (refine decide_eq_true ?_; simp (disch := omega) only [i64w]; omega)); conv => whnf)
              | ((with_reducible refine condm_pos ?_ ?_); (· assumption); conv => whnf)
              | ((with_reducible refine condm_neg ?_ ?_); (· assumption); conv => whnf)
              | ((with_reducible refine forceL_fv (by assumption) ?_); conv => whnf)
              | ((with_reducible refine forceL_rfv (by assumption) ?_); conv => whnf)
              | ((with_reducible refine forceNm_of ?_); conv => whnf)
              | ((with_reducible refine needm_of (fv_lenL (by assumption) (by assumption)) ?_); conv => whnf)
              | ((with_reducible refine optm_var (fv_strL (by assumption) (by assumption)) (fun s hs => ?_)); conv => whnf)
              | ((with_reducible refine forceA_of ?_); conv => whnf)
              | ((with_reducible refine forceL_fw (by assumption) ?_); conv => whnf)
              | ((with_reducible refine forceL_rfw (by assumption) ?_); conv => whnf)
              | ((with_reducible refine forceL_fl (by assumption) ?_); conv => whnf)
              | ((with_reducible refine forceL_rfl (by assumption) ?_); conv => whnf)
              | fail)
            refine forceL_var (fw_setN hrs2 (n := 0) rfl) (fun rs3 hrs3 => ?_)
            replace hrs3 : rs3 = u32s (rounds B (i + 1) s).row := by rw [hrs3, hrd]; rfl
            conv => whnf
            repeat' (first
              | ((with_reducible refine regx_of ?_ ?_); (· decide +kernel); conv => whnf)
              | ((with_reducible refine growx_pre ?_ ?_); (· exact ⟨_, rfl⟩); conv => whnf)
              | ((with_reducible refine needm_of ?_ ?_); (· first | assumption | exact decide_eq_true (by omega) | exact mkOK_of (by decide) | decide +kernel | (refine decide_eq_true ?_; simp (disch := omega) only [i64w]; omega)); conv => whnf)
              | ((with_reducible refine condm_pos ?_ ?_); (· assumption); conv => whnf)
              | ((with_reducible refine condm_neg ?_ ?_); (· assumption); conv => whnf)
              | ((with_reducible refine forceL_fv (by assumption) ?_); conv => whnf)
              | ((with_reducible refine forceL_rfv (by assumption) ?_); conv => whnf)
              | ((with_reducible refine forceNm_of ?_); conv => whnf)
              | ((with_reducible refine needm_of (fv_lenL (by assumption) (by assumption)) ?_); conv => whnf)
              | ((with_reducible refine optm_var (fv_strL (by assumption) (by assumption)) (fun s hs => ?_)); conv => whnf)
              | ((with_reducible refine forceA_of ?_); conv => whnf)
              | ((with_reducible refine forceL_fw (by assumption) ?_); conv => whnf)
              | ((with_reducible refine forceL_rfw (by assumption) ?_); conv => whnf)
              | ((with_reducible refine forceL_fl (by assumption) ?_); conv => whnf)
              | ((with_reducible refine forceL_rfl (by assumption) ?_); conv => whnf)
              | fail)
            refine ⟨64 - (i + 1), by omega, Into.weak [0, 1, 2, 3, 4, 5] _ _ ⟨i + 1, rs3, ws2, W2, by omega, rfl, hrs3, hws2, hW2, hwn, rfl, rfl⟩ ⟨rfl, rfl, rfl, rfl, rfl, congrArg (fun z => some (V.a (.int .i64 z))) e4, trivial⟩ ⟨ren_fl hcs _ _ _, ren_fw hss _ _ _, ren_fw hy _ _ _, ren_fw hws2 _ _ _, ren_fw hks _ _ _, ren_fw hrs3 _ _ _, trivial⟩ ?_⟩
            simp [nodupb, baseb, Ob.okb, frmOk, V.okb, A.okb, hcs.all, all_fw hss, all_fw hy, all_fw hks, all_fw hws2, all_fw hrs3] <;> decide
          · have hi16 : i < 16 := by have := of_decide_eq_false h; omega
            have hwi := hWi i (by omega) (by omega)
            have hwn : ∀ j, i + 1 ≤ j + 16 → j < max (i + 1) 16 → W[j % 16]? = some (wd B j) := fun j h1 h2 => hWi j (by omega) (by omega)
            generalize wd B i = w at *
            conv => whnf
            have hgw : ws[0 + (((i % 16 : Nat) : Int)).toNat * Try.prog.types[32].size]? = some (.int .u32 (w.toNat : Int)) := by
              rw [s32, Nat.mul_one, Nat.zero_add, Int.toNat_natCast]
              exact fw_get hws hwi
            repeat' (first
              | rw [e16]
              | ((with_reducible refine regx_of ?_ ?_); (· decide +kernel); conv => whnf)
              | ((with_reducible refine growx_pre ?_ ?_); (· exact ⟨_, rfl⟩); conv => whnf)
              | ((with_reducible refine needm_of ?_ ?_); (· first | assumption | exact decide_eq_true (by omega) | exact mkOK_of (by decide) | decide +kernel | (refine decide_eq_true ?_; simp (disch := omega) only [i64w]; omega)); conv => whnf)
              | ((with_reducible refine condm_pos ?_ ?_); (· assumption); conv => whnf)
              | ((with_reducible refine condm_neg ?_ ?_); (· assumption); conv => whnf)
              | ((with_reducible refine forceL_fv (by assumption) ?_); conv => whnf)
              | ((with_reducible refine forceL_rfv (by assumption) ?_); conv => whnf)
              | ((with_reducible refine forceNm_of ?_); conv => whnf)
              | ((with_reducible refine needm_of (fv_lenL (by assumption) (by assumption)) ?_); conv => whnf)
              | ((with_reducible refine optm_var (fv_strL (by assumption) (by assumption)) (fun s hs => ?_)); conv => whnf)
              | ((with_reducible refine forceA_of ?_); conv => whnf)
              | ((with_reducible refine forceL_fw (by assumption) ?_); conv => whnf)
              | ((with_reducible refine forceL_rfw (by assumption) ?_); conv => whnf)
              | ((with_reducible refine forceL_fl (by assumption) ?_); conv => whnf)
              | ((with_reducible refine forceL_rfl (by assumption) ?_); conv => whnf)
              | ((with_reducible refine optm_of (fw_get hrs (x := r.a) ?_) ?_); (· rfl); conv => whnf)
              | ((with_reducible refine optm_of (fw_get hrs (x := r.b) ?_) ?_); (· rfl); conv => whnf)
              | ((with_reducible refine optm_of (fw_get hrs (x := r.c) ?_) ?_); (· rfl); conv => whnf)
              | ((with_reducible refine optm_of (fw_get hrs (x := r.d) ?_) ?_); (· rfl); conv => whnf)
              | ((with_reducible refine optm_of (fw_get hrs (x := r.e) ?_) ?_); (· rfl); conv => whnf)
              | ((with_reducible refine optm_of (fw_get hrs (x := r.f) ?_) ?_); (· rfl); conv => whnf)
              | ((with_reducible refine optm_of (fw_get hrs (x := r.g) ?_) ?_); (· rfl); conv => whnf)
              | ((with_reducible refine optm_of (fw_get hrs (x := r.h) ?_) ?_); (· rfl); conv => whnf)
              | ((refine Go.Eng.Fn.frame [] (by rfl) (by exact trivial) (by rfl) (rot46 _ 7 _ rfl (by decide) (by decide) (fun r hr => ?_))); subst hr; conv => whnf)
              | ((refine Go.Eng.Fn.frame [] (by rfl) (by exact trivial) (by rfl) (rot46 _ 18 _ rfl (by decide) (by decide) (fun r hr => ?_))); subst hr; conv => whnf)
              | ((refine Go.Eng.Fn.frame [] (by rfl) (by exact trivial) (by rfl) (rot46 _ 17 _ rfl (by decide) (by decide) (fun r hr => ?_))); subst hr; conv => whnf)
              | ((refine Go.Eng.Fn.frame [] (by rfl) (by exact trivial) (by rfl) (rot46 _ 19 _ rfl (by decide) (by decide) (fun r hr => ?_))); subst hr; conv => whnf)
              | ((refine Go.Eng.Fn.frame [] (by rfl) (by exact trivial) (by rfl) (rot46 _ 6 _ rfl (by decide) (by decide) (fun r hr => ?_))); subst hr; conv => whnf)
              | ((refine Go.Eng.Fn.frame [] (by rfl) (by exact trivial) (by rfl) (rot46 _ 11 _ rfl (by decide) (by decide) (fun r hr => ?_))); subst hr; conv => whnf)
              | ((refine Go.Eng.Fn.frame [] (by rfl) (by exact trivial) (by rfl) (rot46 _ 25 _ rfl (by decide) (by decide) (fun r hr => ?_))); subst hr; conv => whnf)
              | ((refine Go.Eng.Fn.frame [] (by rfl) (by exact trivial) (by rfl) (rot46 _ 2 _ rfl (by decide) (by decide) (fun r hr => ?_))); subst hr; conv => whnf)
              | ((refine Go.Eng.Fn.frame [] (by rfl) (by exact trivial) (by rfl) (rot46 _ 13 _ rfl (by decide) (by decide) (fun r hr => ?_))); subst hr; conv => whnf)
              | ((refine Go.Eng.Fn.frame [] (by rfl) (by exact trivial) (by rfl) (rot46 _ 22 _ rfl (by decide) (by decide) (fun r hr => ?_))); subst hr; conv => whnf)
              | ((with_reducible refine optm_of hgw ?_); conv => whnf)
              | fail)
            repeat (first
              | rw [w_andNot]
              | rw [w_xor]
              | rw [w_and]
              | rw [w_or]
              | rw [w_add]
              | fail)
            have ht : r.h + k + w + (r.e &&& r.f ||| r.g &&& ~~~r.e) + (rotr r.e 6 ^^^ rotr r.e 11 ^^^ rotr r.e 25) = tOf r.e r.f r.g r.h k w := t_eq _ _ _ _ _ _
            have hu : (r.a &&& r.b ||| r.a &&& r.c ||| r.b &&& r.c) + (rotr r.a 2 ^^^ rotr r.a 13 ^^^ rotr r.a 22) = uOf r.a r.b r.c := u_eq _ _ _
            rw [ht, hu]
            unfold rnd at hrd
            generalize tOf r.e r.f r.g r.h k w = t at *
            generalize uOf r.a r.b r.c = u at *
            have hrl : rs.length = 8 := by rw [fw_len hrs]; rfl
            repeat' (first
              | ((with_reducible refine regx_of ?_ ?_); (· decide +kernel); conv => whnf)
              | ((with_reducible refine growx_pre ?_ ?_); (· exact ⟨_, rfl⟩); conv => whnf)
              | ((with_reducible refine needm_of ?_ ?_); (· first | assumption | exact decide_eq_true (by omega) | exact mkOK_of (by decide) | decide +kernel | (refine decide_eq_true ?_; simp (disch := omega) only [i64w]; omega)); conv => whnf)
              | ((with_reducible refine condm_pos ?_ ?_); (· assumption); conv => whnf)
              | ((with_reducible refine condm_neg ?_ ?_); (· assumption); conv => whnf)
              | ((with_reducible refine forceL_fv (by assumption) ?_); conv => whnf)
              | ((with_reducible refine forceL_rfv (by assumption) ?_); conv => whnf)
              | ((with_reducible refine forceNm_of ?_); conv => whnf)
              | ((with_reducible refine needm_of (fv_lenL (by assumption) (by assumption)) ?_); conv => whnf)
              | ((with_reducible refine optm_var (fv_strL (by assumption) (by assumption)) (fun s hs => ?_)); conv => whnf)
              | ((with_reducible refine forceA_of ?_); conv => whnf)
              | ((with_reducible refine forceL_fw (by assumption) ?_); conv => whnf)
              | ((with_reducible refine forceL_rfw (by assumption) ?_); conv => whnf)
              | ((with_reducible refine forceL_fl (by assumption) ?_); conv => whnf)
              | ((with_reducible refine forceL_rfl (by assumption) ?_); conv => whnf)
              | fail)
            refine needm_of (by rw [hrl]; rfl) ?_
            conv => whnf
            repeat' (first
              | ((with_reducible refine regx_of ?_ ?_); (· decide +kernel); conv => whnf)
              | ((with_reducible refine growx_pre ?_ ?_); (· exact ⟨_, rfl⟩); conv => whnf)
              | ((with_reducible refine needm_of ?_ ?_); (· first | assumption | exact decide_eq_true (by omega) | exact mkOK_of (by decide) | decide +kernel | (refine decide_eq_true ?_; simp (disch := omega) only [i64w]; omega)); conv => whnf)
              | ((with_reducible refine condm_pos ?_ ?_); (· assumption); conv => whnf)
              | ((with_reducible refine condm_neg ?_ ?_); (· assumption); conv => whnf)
              | ((with_reducible refine forceL_fv (by assumption) ?_); conv => whnf)
              | ((with_reducible refine forceL_rfv (by assumption) ?_); conv => whnf)
              | ((with_reducible refine forceNm_of ?_); conv => whnf)
              | ((with_reducible refine needm_of (fv_lenL (by assumption) (by assumption)) ?_); conv => whnf)
              | ((with_reducible refine optm_var (fv_strL (by assumption) (by assumption)) (fun s hs => ?_)); conv => whnf)
              | ((with_reducible refine forceA_of ?_); conv => whnf)
              | ((with_reducible refine forceL_fw (by assumption) ?_); conv => whnf)
              | ((with_reducible refine forceL_rfw (by assumption) ?_); conv => whnf)
              | ((with_reducible refine forceL_fl (by assumption) ?_); conv => whnf)
              | ((with_reducible refine forceL_rfl (by assumption) ?_); conv => whnf)
              | fail)
            refine needm_of (by rw [List.length_drop, List.length_take, hrl]; rfl) ?_
            conv => whnf
            repeat' (first
              | ((with_reducible refine regx_of ?_ ?_); (· decide +kernel); conv => whnf)
              | ((with_reducible refine growx_pre ?_ ?_); (· exact ⟨_, rfl⟩); conv => whnf)
              | ((with_reducible refine needm_of ?_ ?_); (· first | assumption | exact decide_eq_true (by omega) | exact mkOK_of (by decide) | decide +kernel | (refine decide_eq_true ?_; simp (disch := omega) only [i64w]; omega)); conv => whnf)
              | ((with_reducible refine condm_pos ?_ ?_); (· assumption); conv => whnf)
              | ((with_reducible refine condm_neg ?_ ?_); (· assumption); conv => whnf)
              | ((with_reducible refine forceL_fv (by assumption) ?_); conv => whnf)
              | ((with_reducible refine forceL_rfv (by assumption) ?_); conv => whnf)
              | ((with_reducible refine forceNm_of ?_); conv => whnf)
              | ((with_reducible refine needm_of (fv_lenL (by assumption) (by assumption)) ?_); conv => whnf)
              | ((with_reducible refine optm_var (fv_strL (by assumption) (by assumption)) (fun s hs => ?_)); conv => whnf)
              | ((with_reducible refine forceA_of ?_); conv => whnf)
              | ((with_reducible refine forceL_fw (by assumption) ?_); conv => whnf)
              | ((with_reducible refine forceL_rfw (by assumption) ?_); conv => whnf)
              | ((with_reducible refine forceL_fl (by assumption) ?_); conv => whnf)
              | ((with_reducible refine forceL_rfl (by assumption) ?_); conv => whnf)
              | fail)
            refine forceL_var (l' := u32s [r.a, r.a, r.b, r.c, r.d, r.e, r.f, r.g]) ?_ (fun rs1 hrs1 => ?_)
            · rw [hrs]
              unfold u32s
              rfl
            have hrl1 : rs1.length = 8 := by rw [fw_len hrs1]; rfl
            conv => whnf
            repeat' (first
              | ((with_reducible refine regx_of ?_ ?_); (· decide +kernel); conv => whnf)
              | ((with_reducible refine growx_pre ?_ ?_); (· exact ⟨_, rfl⟩); conv => whnf)
              | ((with_reducible refine needm_of ?_ ?_); (· first | assumption | exact decide_eq_true (by omega) | exact mkOK_of (by decide) | decide +kernel | (refine decide_eq_true ?_; simp (disch := omega) only [i64w]; omega)); conv => whnf)
              | ((with_reducible refine condm_pos ?_ ?_); (· assumption); conv => whnf)
              | ((with_reducible refine condm_neg ?_ ?_); (· assumption); conv => whnf)
              | ((with_reducible refine forceL_fv (by assumption) ?_); conv => whnf)
              | ((with_reducible refine forceL_rfv (by assumption) ?_); conv => whnf)
              | ((with_reducible refine forceNm_of ?_); conv => whnf)
              | ((with_reducible refine needm_of (fv_lenL (by assumption) (by assumption)) ?_); conv => whnf)
              | ((with_reducible refine optm_var (fv_strL (by assumption) (by assumption)) (fun s hs => ?_)); conv => whnf)
              | ((with_reducible refine forceA_of ?_); conv => whnf)
              | ((with_reducible refine forceL_fw (by assumption) ?_); conv => whnf)
              | ((with_reducible refine forceL_rfw (by assumption) ?_); conv => whnf)
              | ((with_reducible refine forceL_fl (by assumption) ?_); conv => whnf)
              | ((with_reducible refine forceL_rfl (by assumption) ?_); conv => whnf)
              | ((with_reducible refine optm_of (fw_get hrs1 (x := r.d) ?_) ?_); (· rfl); conv => whnf)
              | fail)
            rw [w_add]
            refine needm_of (by rw [hrl1]; rfl) ?_
            conv => whnf
            repeat' (first
              | ((with_reducible refine regx_of ?_ ?_); (· decide +kernel); conv => whnf)
              | ((with_reducible refine growx_pre ?_ ?_); (· exact ⟨_, rfl⟩); conv => whnf)
              | ((with_reducible refine needm_of ?_ ?_); (· first | assumption | exact decide_eq_true (by omega) | exact mkOK_of (by decide) | decide +kernel | (refine decide_eq_true ?_; simp (disch := omega) only [i64w]; omega)); conv => whnf)
              | ((with_reducible refine condm_pos ?_ ?_); (· assumption); conv => whnf)
              | ((with_reducible refine condm_neg ?_ ?_); (· assumption); conv => whnf)
              | ((with_reducible refine forceL_fv (by assumption) ?_); conv => whnf)
              | ((with_reducible refine forceL_rfv (by assumption) ?_); conv => whnf)
              | ((with_reducible refine forceNm_of ?_); conv => whnf)
              | ((with_reducible refine needm_of (fv_lenL (by assumption) (by assumption)) ?_); conv => whnf)
              | ((with_reducible refine optm_var (fv_strL (by assumption) (by assumption)) (fun s hs => ?_)); conv => whnf)
              | ((with_reducible refine forceA_of ?_); conv => whnf)
              | ((with_reducible refine forceL_fw (by assumption) ?_); conv => whnf)
              | ((with_reducible refine forceL_rfw (by assumption) ?_); conv => whnf)
              | ((with_reducible refine forceL_fl (by assumption) ?_); conv => whnf)
              | ((with_reducible refine forceL_rfl (by assumption) ?_); conv => whnf)
              | fail)
            refine forceL_var (fw_setN hrs1 (n := 4) rfl) (fun rs2 hrs2 => ?_)
            have hrl2 : rs2.length = 8 := by rw [fw_len hrs2]; rfl
            conv => whnf
            repeat' (first
              | ((with_reducible refine regx_of ?_ ?_); (· decide +kernel); conv => whnf)
              | ((with_reducible refine growx_pre ?_ ?_); (· exact ⟨_, rfl⟩); conv => whnf)
              | ((with_reducible refine needm_of ?_ ?_); (· first | assumption | exact decide_eq_true (by omega) | exact mkOK_of (by decide) | decide +kernel | (refine decide_eq_true ?_; simp (disch := omega) only [i64w]; omega)); conv => whnf)
              | ((with_reducible refine condm_pos ?_ ?_); (· assumption); conv => whnf)
              | ((with_reducible refine condm_neg ?_ ?_); (· assumption); conv => whnf)
              | ((with_reducible refine forceL_fv (by assumption) ?_); conv => whnf)
              | ((with_reducible refine forceL_rfv (by assumption) ?_); conv => whnf)
              | ((with_reducible refine forceNm_of ?_); conv => whnf)
              | ((with_reducible refine needm_of (fv_lenL (by assumption) (by assumption)) ?_); conv => whnf)
              | ((with_reducible refine optm_var (fv_strL (by assumption) (by assumption)) (fun s hs => ?_)); conv => whnf)
              | ((with_reducible refine forceA_of ?_); conv => whnf)
              | ((with_reducible refine forceL_fw (by assumption) ?_); conv => whnf)
              | ((with_reducible refine forceL_rfw (by assumption) ?_); conv => whnf)
              | ((with_reducible refine forceL_fl (by assumption) ?_); conv => whnf)
              | ((with_reducible refine forceL_rfl (by assumption) ?_); conv => whnf)
              | fail)
            rw [w_add]
            refine needm_of (by rw [hrl2]; rfl) ?_
            conv => whnf
            repeat' (first
              | ((with_reducible refine regx_of ?_ ?_); (· decide +kernel); conv => whnf)
              | ((with_reducible refine growx_pre ?_ ?_); (· exact ⟨_, rfl⟩); conv => whnf)
              | ((with_reducible refine needm_of ?_ ?_); (· first | assumption | exact decide_eq_true (by omega) | exact mkOK_of (by decide) | decide +kernel | (refine decide_eq_true ?_; simp (disch := omega) only [i64w]; omega)); conv => whnf)
              | ((with_reducible refine condm_pos ?_ ?_); (· assumption); conv => whnf)
              | ((with_reducible refine condm_neg ?_ ?_); (· assumption); conv => whnf)
              | ((with_reducible refine forceL_fv (by assumption) ?_); conv => whnf)
              | ((with_reducible refine forceL_rfv (by assumption) ?_); conv => whnf)
              | ((with_reducible refine forceNm_of ?_); conv => whnf)
              | ((with_reducible refine needm_of (fv_lenL (by assumption) (by assumption)) ?_); conv => whnf)
              | ((with_reducible refine optm_var (fv_strL (by assumption) (by assumption)) (fun s hs => ?_)); conv => whnf)
              | ((with_reducible refine forceA_of ?_); conv => whnf)
              | ((with_reducible refine forceL_fw (by assumption) ?_); conv => whnf)
              | ((with_reducible refine forceL_rfw (by assumption) ?_); conv => whnf)
              | ((with_reducible refine forceL_fl (by assumption) ?_); conv => whnf)
              | ((with_reducible refine forceL_rfl (by assumption) ?_); conv => whnf)
              | fail)
            refine forceL_var (fw_setN hrs2 (n := 0) rfl) (fun rs3 hrs3 => ?_)
            replace hrs3 : rs3 = u32s (rounds B (i + 1) s).row := by rw [hrs3, hrd]; rfl
            conv => whnf
            repeat' (first
              | ((with_reducible refine regx_of ?_ ?_); (· decide +kernel); conv => whnf)
              | ((with_reducible refine growx_pre ?_ ?_); (· exact ⟨_, rfl⟩); conv => whnf)
              | ((with_reducible refine needm_of ?_ ?_); (· first | assumption | exact decide_eq_true (by omega) | exact mkOK_of (by decide) | decide +kernel | (refine decide_eq_true ?_; simp (disch := omega) only [i64w]; omega)); conv => whnf)
              | ((with_reducible refine condm_pos ?_ ?_); (· assumption); conv => whnf)
              | ((with_reducible refine condm_neg ?_ ?_); (· assumption); conv => whnf)
              | ((with_reducible refine forceL_fv (by assumption) ?_); conv => whnf)
              | ((with_reducible refine forceL_rfv (by assumption) ?_); conv => whnf)
              | ((with_reducible refine forceNm_of ?_); conv => whnf)
              | ((with_reducible refine needm_of (fv_lenL (by assumption) (by assumption)) ?_); conv => whnf)
              | ((with_reducible refine optm_var (fv_strL (by assumption) (by assumption)) (fun s hs => ?_)); conv => whnf)
              | ((with_reducible refine forceA_of ?_); conv => whnf)
              | ((with_reducible refine forceL_fw (by assumption) ?_); conv => whnf)
              | ((with_reducible refine forceL_rfw (by assumption) ?_); conv => whnf)
              | ((with_reducible refine forceL_fl (by assumption) ?_); conv => whnf)
              | ((with_reducible refine forceL_rfl (by assumption) ?_); conv => whnf)
              | fail)
            refine ⟨64 - (i + 1), by omega, Into.weak [0, 1, 2, 3, 4, 5] _ _ ⟨i + 1, rs3, ws, W, by omega, rfl, hrs3, hws, hW, hwn, rfl, rfl⟩ ⟨rfl, rfl, rfl, rfl, rfl, congrArg (fun z => some (V.a (.int .i64 z))) e4, trivial⟩ ⟨ren_fl hcs _ _ _, ren_fw hss _ _ _, ren_fw hy _ _ _, ren_fw hws _ _ _, ren_fw hks _ _ _, ren_fw hrs3 _ _ _, trivial⟩ ?_⟩
            simp [nodupb, baseb, Ob.okb, frmOk, V.okb, A.okb, hcs.all, all_fw hss, all_fw hy, all_fw hks, all_fw hws, all_fw hrs3] <;> decide
        · have h64 : i = 64 := by have := of_decide_eq_false h; omega
          subst h64
          clear h hi hWi
          conv => whnf
          have hbl : blockS s B = addS (rounds B 64 s) s := by unfold blockS; rfl
          generalize rounds B 64 s = x at *
          refine loopx_of (fun m F H => ∃ (i : Nat) (rs : List A) (R : List UInt32), i ≤ 8 ∧ m = 8 - i ∧ rs = u32s R ∧ R.length = 8 ∧ (∀ j, R[j]? = if j < i then (addS x s).row[j]? else x.row[j]?) ∧ F = [(2, .a (.ptr 1 0)), (4, .a (.ptr 2 0)), (8, .a (.ptr 5 0)), (190, .a (.int .i64 i))] ∧ H = [.cells cs ty mk, .cells ss 33 false, .cells z8 33 false, .cells ws 73 false, .cells ks 69 false, .cells rs 33 false]) 8 ?_ ?_
          · refine Into.weak [0, 1, 2, 3, 4, 5] _ _ ⟨0, rs, _, by omega, rfl, hrs, rfl, fun j => by simp, rfl, rfl⟩ ⟨rfl, rfl, rfl, rfl, trivial⟩ ⟨ren_fl hcs _ _ _, ren_fw hss _ _ _, ren_fw hy _ _ _, ren_fw hws _ _ _, ren_fw hks _ _ _, ren_fw hrs _ _ _, trivial⟩ ?_
            simp [nodupb, baseb, Ob.okb, frmOk, V.okb, A.okb, hcs.all, all_fw hss, all_fw hy, all_fw hks, all_fw hws, all_fw hrs] <;> decide
          · clear hrs
            rintro m F H ⟨i, rs, R, hi, rfl, hrs, hR, hRj, rfl, rfl⟩
            conv => whnf
            refine condm_of (fun h => ?_) (fun h => ?_)
            · have hi8 : i < 8 := by have := of_decide_eq_true h; omega
              have e4 : IntKind.i64.wrap (↑i + 1) = ((i + 1 : Nat) : Int) := by rw [i64w (by omega) (by omega)]; rfl
              obtain ⟨p, q, hp, hq, hpq⟩ : ∃ p q, x.row[i]? = some p ∧ s.row[i]? = some q ∧ (addS x s).row[i]? = some (p + q) := by
                have : i = 0 ∨ i = 1 ∨ i = 2 ∨ i = 3 ∨ i = 4 ∨ i = 5 ∨ i = 6 ∨ i = 7 := by omega
                rcases this with rfl | rfl | rfl | rfl | rfl | rfl | rfl | rfl <;> exact ⟨_, _, rfl, rfl, rfl⟩
              have hg1 : rs[0 + (i : Int).toNat * Try.prog.types[32].size]? = some (.int .u32 (p.toNat : Int)) := by
                rw [s32, Nat.mul_one, Nat.zero_add, Int.toNat_natCast]; exact fw_get hrs (by rw [hRj, if_neg (by omega)]; exact hp)
              have hg2 : ss[0 + (i : Int).toNat * Try.prog.types[32].size]? = some (.int .u32 (q.toNat : Int)) := by
                rw [s32, Nat.mul_one, Nat.zero_add, Int.toNat_natCast]; exact fw_get hss hq
              conv => whnf
              repeat' (first
                | ((with_reducible refine regx_of ?_ ?_); (· decide +kernel); conv => whnf)
                | ((with_reducible refine growx_pre ?_ ?_); (· exact ⟨_, rfl⟩); conv => whnf)
                | ((with_reducible refine needm_of ?_ ?_); (· first | assumption | exact decide_eq_true (by omega) | exact mkOK_of (by decide) | decide +kernel | (refine decide_eq_true ?_; simp (disch := omega) only [i64w]; omega)); conv => whnf)
                | ((with_reducible refine condm_pos ?_ ?_); (· assumption); conv => whnf)
                | ((with_reducible refine condm_neg ?_ ?_); (· assumption); conv => whnf)
                | ((with_reducible refine forceL_fv (by assumption) ?_); conv => whnf)
                | ((with_reducible refine forceL_rfv (by assumption) ?_); conv => whnf)
                | ((with_reducible refine forceNm_of ?_); conv => whnf)
                | ((with_reducible refine needm_of (fv_lenL (by assumption) (by assumption)) ?_); conv => whnf)
                | ((with_reducible refine optm_var (fv_strL (by assumption) (by assumption)) (fun s hs => ?_)); conv => whnf)
                | ((with_reducible refine forceA_of ?_); conv => whnf)
                | ((with_reducible refine forceL_fw (by assumption) ?_); conv => whnf)
                | ((with_reducible refine forceL_rfw (by assumption) ?_); conv => whnf)
                | ((with_reducible refine forceL_fl (by assumption) ?_); conv => whnf)
                | ((with_reducible refine forceL_rfl (by assumption) ?_); conv => whnf)
                | ((with_reducible refine optm_of hg1 ?_); conv => whnf)
                | ((with_reducible refine optm_of hg2 ?_); conv => whnf)
                | fail)
              rw [w_add]
              have hrl : rs.length = 8 := by rw [fw_len hrs, hR]
              refine needm_of (by rw [hrl, s32]; simp; omega) ?_
              conv => whnf
              repeat' (first
                | ((with_reducible refine regx_of ?_ ?_); (· decide +kernel); conv => whnf)
                | ((with_reducible refine growx_pre ?_ ?_); (· exact ⟨_, rfl⟩); conv => whnf)
                | ((with_reducible refine needm_of ?_ ?_); (· first | assumption | exact decide_eq_true (by omega) | exact mkOK_of (by decide) | decide +kernel | (refine decide_eq_true ?_; simp (disch := omega) only [i64w]; omega)); conv => whnf)
                | ((with_reducible refine condm_pos ?_ ?_); (· assumption); conv => whnf)
                | ((with_reducible refine condm_neg ?_ ?_); (· assumption); conv => whnf)
                | ((with_reducible refine forceL_fv (by assumption) ?_); conv => whnf)
                | ((with_reducible refine forceL_rfv (by assumption) ?_); conv => whnf)
                | ((with_reducible refine forceNm_of ?_); conv => whnf)
                | ((with_reducible refine needm_of (fv_lenL (by assumption) (by assumption)) ?_); conv => whnf)
                | ((with_reducible refine optm_var (fv_strL (by assumption) (by assumption)) (fun s hs => ?_)); conv => whnf)
                | ((with_reducible refine forceA_of ?_); conv => whnf)
                | ((with_reducible refine forceL_fw (by assumption) ?_); conv => whnf)
                | ((with_reducible refine forceL_rfw (by assumption) ?_); conv => whnf)
                | ((with_reducible refine forceL_fl (by assumption) ?_); conv => whnf)
                | ((with_reducible refine forceL_rfl (by assumption) ?_); conv => whnf)
                | fail)
              refine forceL_var (fw_setN hrs (n := i) (by rw [s32, Nat.zero_add, Nat.mul_one, Int.toNat_natCast])) (fun rs' hrs' => ?_)
              conv => whnf
              repeat' (first
                | ((with_reducible refine regx_of ?_ ?_); (· decide +kernel); conv => whnf)
                | ((with_reducible refine growx_pre ?_ ?_); (· exact ⟨_, rfl⟩); conv => whnf)
                | ((with_reducible refine needm_of ?_ ?_); (· first | assumption | exact decide_eq_true (by omega) | exact mkOK_of (by decide) | decide +kernel | (refine decide_eq_true ?_; simp (disch := omega) only [i64w]; omega)); conv => whnf)
                | ((with_reducible refine condm_pos ?_ ?_); (· assumption); conv => whnf)
                | ((with_reducible refine condm_neg ?_ ?_); (· assumption); conv => whnf)
                | ((with_reducible refine forceL_fv (by assumption) ?_); conv => whnf)
                | ((with_reducible refine forceL_rfv (by assumption) ?_); conv => whnf)
                | ((with_reducible refine forceNm_of ?_); conv => whnf)
                | ((with_reducible refine needm_of (fv_lenL (by assumption) (by assumption)) ?_); conv => whnf)
                | ((with_reducible refine optm_var (fv_strL (by assumption) (by assumption)) (fun s hs => ?_)); conv => whnf)
                | ((with_reducible refine forceA_of ?_); conv => whnf)
                | ((with_reducible refine forceL_fw (by assumption) ?_); conv => whnf)
                | ((with_reducible refine forceL_rfw (by assumption) ?_); conv => whnf)
                | ((with_reducible refine forceL_fl (by assumption) ?_); conv => whnf)
                | ((with_reducible refine forceL_rfl (by assumption) ?_); conv => whnf)
                | fail)
              refine ⟨8 - (i + 1), by omega, Into.weak [0, 1, 2, 3, 4, 5] _ _ ⟨i + 1, rs', _, by omega, rfl, hrs', by rw [List.length_set, hR], ?_, rfl, rfl⟩ ⟨rfl, rfl, rfl, congrArg (fun z => some (V.a (.int .i64 z))) e4, trivial⟩ ⟨ren_fl hcs _ _ _, ren_fw hss _ _ _, ren_fw hy _ _ _, ren_fw hws _ _ _, ren_fw hks _ _ _, ren_fw hrs' _ _ _, trivial⟩ ?_⟩
              · intro j
                rw [List.getElem?_set, hRj]
                by_cases e : i = j
                · subst e
                  rw [if_pos rfl, if_pos (by omega), if_pos (by omega), hpq]
                · rw [if_neg e]
                  by_cases e2 : j < i
                  · rw [if_pos e2, if_pos (by omega)]
                  · rw [if_neg e2, if_neg (by omega)]
              · simp [nodupb, baseb, Ob.okb, frmOk, V.okb, A.okb, hcs.all, all_fw hss, all_fw hy, all_fw hks, all_fw hws, all_fw hrs'] <;> decide
            · have h8 : i = 8 := by have := of_decide_eq_false h; omega
              subst h8
              have hRe : R = (addS x s).row := by
                apply List.ext_getElem?
                intro j
                rw [hRj]
                by_cases e : j < 8
                · rw [if_pos e]
                · rw [if_neg e, List.getElem?_eq_none (by rw [row_length]; omega), List.getElem?_eq_none (by rw [row_length]; omega)]
              have hrl : rs.length = 8 := by rw [fw_len hrs, hR]
              conv => whnf
              repeat' (first
                | ((with_reducible refine regx_of ?_ ?_); (· decide +kernel); conv => whnf)
                | ((with_reducible refine growx_pre ?_ ?_); (· exact ⟨_, rfl⟩); conv => whnf)
                | ((with_reducible refine needm_of ?_ ?_); (· first | assumption | exact decide_eq_true (by omega) | exact mkOK_of (by decide) | decide +kernel | (refine decide_eq_true ?_; simp (disch := omega) only [i64w]; omega)); conv => whnf)
                | ((with_reducible refine condm_pos ?_ ?_); (· assumption); conv => whnf)
                | ((with_reducible refine condm_neg ?_ ?_); (· assumption); conv => whnf)
                | ((with_reducible refine forceL_fv (by assumption) ?_); conv => whnf)
                | ((with_reducible refine forceL_rfv (by assumption) ?_); conv => whnf)
                | ((with_reducible refine forceNm_of ?_); conv => whnf)
                | ((with_reducible refine needm_of (fv_lenL (by assumption) (by assumption)) ?_); conv => whnf)
                | ((with_reducible refine optm_var (fv_strL (by assumption) (by assumption)) (fun s hs => ?_)); conv => whnf)
                | ((with_reducible refine forceA_of ?_); conv => whnf)
                | ((with_reducible refine forceL_fw (by assumption) ?_); conv => whnf)
                | ((with_reducible refine forceL_rfw (by assumption) ?_); conv => whnf)
                | ((with_reducible refine forceL_fl (by assumption) ?_); conv => whnf)
                | ((with_reducible refine forceL_rfl (by assumption) ?_); conv => whnf)
                | fail)
              refine needm_of (by rw [hrl]; rfl) ?_
              conv => whnf
              refine forceL_to (whole_of (by rw [hrl]; rfl)) ?_
              conv => whnf
              repeat' (first
                | ((with_reducible refine regx_of ?_ ?_); (· decide +kernel); conv => whnf)
                | ((with_reducible refine growx_pre ?_ ?_); (· exact ⟨_, rfl⟩); conv => whnf)
                | ((with_reducible refine needm_of ?_ ?_); (· first | assumption | exact decide_eq_true (by omega) | exact mkOK_of (by decide) | decide +kernel | (refine decide_eq_true ?_; simp (disch := omega) only [i64w]; omega)); conv => whnf)
                | ((with_reducible refine condm_pos ?_ ?_); (· assumption); conv => whnf)
                | ((with_reducible refine condm_neg ?_ ?_); (· assumption); conv => whnf)
                | ((with_reducible refine forceL_fv (by assumption) ?_); conv => whnf)
                | ((with_reducible refine forceL_rfv (by assumption) ?_); conv => whnf)
                | ((with_reducible refine forceNm_of ?_); conv => whnf)
                | ((with_reducible refine needm_of (fv_lenL (by assumption) (by assumption)) ?_); conv => whnf)
                | ((with_reducible refine optm_var (fv_strL (by assumption) (by assumption)) (fun s hs => ?_)); conv => whnf)
                | ((with_reducible refine forceA_of ?_); conv => whnf)
                | ((with_reducible refine forceL_fw (by assumption) ?_); conv => whnf)
                | ((with_reducible refine forceL_rfw (by assumption) ?_); conv => whnf)
                | ((with_reducible refine forceL_fl (by assumption) ?_); conv => whnf)
                | ((with_reducible refine forceL_rfl (by assumption) ?_); conv => whnf)
                | fail)
              refine needm_of (by rw [hrl, h8l]; rfl) ?_
              conv => whnf
              repeat' (first
                | ((with_reducible refine regx_of ?_ ?_); (· decide +kernel); conv => whnf)
                | ((with_reducible refine growx_pre ?_ ?_); (· exact ⟨_, rfl⟩); conv => whnf)
                | ((with_reducible refine needm_of ?_ ?_); (· first | assumption | exact decide_eq_true (by omega) | exact mkOK_of (by decide) | decide +kernel | (refine decide_eq_true ?_; simp (disch := omega) only [i64w]; omega)); conv => whnf)
                | ((with_reducible refine condm_pos ?_ ?_); (· assumption); conv => whnf)
                | ((with_reducible refine condm_neg ?_ ?_); (· assumption); conv => whnf)
                | ((with_reducible refine forceL_fv (by assumption) ?_); conv => whnf)
                | ((with_reducible refine forceL_rfv (by assumption) ?_); conv => whnf)
                | ((with_reducible refine forceNm_of ?_); conv => whnf)
                | ((with_reducible refine needm_of (fv_lenL (by assumption) (by assumption)) ?_); conv => whnf)
                | ((with_reducible refine optm_var (fv_strL (by assumption) (by assumption)) (fun s hs => ?_)); conv => whnf)
                | ((with_reducible refine forceA_of ?_); conv => whnf)
                | ((with_reducible refine forceL_fw (by assumption) ?_); conv => whnf)
                | ((with_reducible refine forceL_rfw (by assumption) ?_); conv => whnf)
                | ((with_reducible refine forceL_fl (by assumption) ?_); conv => whnf)
                | ((with_reducible refine forceL_rfl (by assumption) ?_); conv => whnf)
                | fail)
              refine forceL_to (store_all (by rw [hrl, h8l])) ?_
              conv => whnf
              repeat' (first
                | ((with_reducible refine regx_of ?_ ?_); (· decide +kernel); conv => whnf)
                | ((with_reducible refine growx_pre ?_ ?_); (· exact ⟨_, rfl⟩); conv => whnf)
                | ((with_reducible refine needm_of ?_ ?_); (· first | assumption | exact decide_eq_true (by omega) | exact mkOK_of (by decide) | decide +kernel | (refine decide_eq_true ?_; simp (disch := omega) only [i64w]; omega)); conv => whnf)
                | ((with_reducible refine condm_pos ?_ ?_); (· assumption); conv => whnf)
                | ((with_reducible refine condm_neg ?_ ?_); (· assumption); conv => whnf)
                | ((with_reducible refine forceL_fv (by assumption) ?_); conv => whnf)
                | ((with_reducible refine forceL_rfv (by assumption) ?_); conv => whnf)
                | ((with_reducible refine forceNm_of ?_); conv => whnf)
                | ((with_reducible refine needm_of (fv_lenL (by assumption) (by assumption)) ?_); conv => whnf)
                | ((with_reducible refine optm_var (fv_strL (by assumption) (by assumption)) (fun s hs => ?_)); conv => whnf)
                | ((with_reducible refine forceA_of ?_); conv => whnf)
                | ((with_reducible refine forceL_fw (by assumption) ?_); conv => whnf)
                | ((with_reducible refine forceL_rfw (by assumption) ?_); conv => whnf)
                | ((with_reducible refine forceL_fl (by assumption) ?_); conv => whnf)
                | ((with_reducible refine forceL_rfl (by assumption) ?_); conv => whnf)
                | fail)
              refine needm_of (by rw [hrl]; rfl) ?_
              conv => whnf
              rw [whole_of (by rw [hrl]; rfl)]
              exact keepOf (v₀ := .g rs) [.cells cs ty mk] [0] (by rw [hrs]; simp [V.ren, u32s, A.ren]) ⟨ren_fl hcs _ _ _, trivial⟩ (by simp [nodupb, baseb, Ob.okb, frmOk, V.okb, hcs.all, all_fw hrs]) (hK rs (by rw [hrs, hRe, hbl]))
end
end Go.Proofs.Ytglbldhineggaaa.DG
