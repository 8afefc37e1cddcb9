import Derived.Test.YtglbldhineggaaaDW
namespace Go.Proofs.Ytglbldhineggaaa.DG
open Go.Eng
set_option maxRecDepth 100000
theorem s32 : Try.prog.types[32].size = 1 := rfl
theorem s69 : Try.prog.types[69].size = 64 := rfl
section
variable {ro : Addr → A → Prop}
set_option maxHeartbeats 1000000 in
theorem words43 {mk : Bool} (cs : List A) (L : List UInt8) (off cap : Nat) (hcs : cs = u8s L) (hL : off + 64 ≤ L.length) (B : List UInt8) (hB : ∀ j, j < 64 → L[off + j]? = some (B.getD j 0)) {K : V → Hp → Prop}
    (hK : ∀ ws W, ws = u32s W → W.length = 64 → (∀ j, j < 64 → W[j]? = some (wd B j)) → K (.g ws) [.cells cs 5 mk]) :
    Go.Eng.Fn Try.prog ro 43 [.a (.slc 0 off 64 cap)] [.cells cs 5 mk] K := by
  refine Go.Eng.Fn.weak ?_
  refine Go.Eng.Fn.of 1 h43 rfl Try.func43 rfl (Nat.le_of_ble_eq_true rfl) ?_
  conv => whnf
  obtain ⟨zs, hzs⟩ : ∃ zs : List A, zs = [A.int .u32 0, A.int .u32 0, A.int .u32 0, A.int .u32 0, A.int .u32 0, A.int .u32 0, A.int .u32 0, A.int .u32 0, A.int .u32 0, A.int .u32 0, A.int .u32 0, A.int .u32 0, A.int .u32 0, A.int .u32 0, A.int .u32 0, A.int .u32 0, A.int .u32 0, A.int .u32 0, A.int .u32 0, A.int .u32 0, A.int .u32 0, A.int .u32 0, A.int .u32 0, A.int .u32 0, A.int .u32 0, A.int .u32 0, A.int .u32 0, A.int .u32 0, A.int .u32 0, A.int .u32 0, A.int .u32 0, A.int .u32 0, A.int .u32 0, A.int .u32 0, A.int .u32 0, A.int .u32 0, A.int .u32 0, A.int .u32 0, A.int .u32 0, A.int .u32 0, A.int .u32 0, A.int .u32 0, A.int .u32 0, A.int .u32 0, A.int .u32 0, A.int .u32 0, A.int .u32 0, A.int .u32 0, A.int .u32 0, A.int .u32 0, A.int .u32 0, A.int .u32 0, A.int .u32 0, A.int .u32 0, A.int .u32 0, A.int .u32 0, A.int .u32 0, A.int .u32 0, A.int .u32 0, A.int .u32 0, A.int .u32 0, A.int .u32 0, A.int .u32 0, A.int .u32 0] := ⟨_, rfl⟩
  have hz : zs = u32s (List.replicate 64 0) := by rw [hzs]; unfold u32s; rfl
  rw [← hzs]
  repeat' (first
    | ((with_reducible refine regx_of ?_ ?_); (· decide +kernel); conv => whnf)
    | ((with_reducible refine growx_pre ?_ ?_); (· exact ⟨_, rfl⟩); conv => whnf)
    | ((with_reducible refine needm_of ?_ ?_); (· first | assumption | exact decide_eq_true (by omega) | exact mkOK_of (by decide) | decide +kernel | (refine decide_eq_true ?_; simp (disch := omega) only [i64w]; omega)); conv => whnf)
    | ((with_reducible refine condm_pos ?_ ?_); (· assumption); conv => whnf)
    | ((with_reducible refine condm_neg ?_ ?_); (· assumption); conv => whnf)
    | ((with_reducible refine forceL_fv (by assumption) ?_); conv => whnf)
    | ((with_reducible refine forceL_rfv (by assumption) ?_); conv => whnf)
    | ((with_reducible refine forceNm_of ?_); conv => whnf)
    | ((with_reducible refine needm_of (fv_lenL (by assumption) (by assumption)) ?_); conv => whnf)
    | ((with_reducible refine optm_var (fv_strL (by assumption) (by assumption)) (fun s hs => ?_)); conv => whnf)
    | ((with_reducible refine forceA_of ?_); conv => whnf)
    | ((with_reducible refine forceL_fw (by assumption) ?_); conv => whnf)
    | ((with_reducible refine forceL_rfw (by assumption) ?_); conv => whnf)
    | ((with_reducible refine forceL_fl (by assumption) ?_); conv => whnf)
    | ((with_reducible refine forceL_rfl (by assumption) ?_); conv => whnf)
    | fail)
  rw [← hzs]
  clear hzs
  refine loopx_of (fun m F H => ∃ (i : Nat) (ws : List A) (W : List UInt32), i ≤ 64 ∧ m = 64 - i ∧ ws = u32s W ∧ W.length = 64 ∧ (∀ j, j < i → W[j]? = some (wd B j)) ∧ F = [(0, .a (.slc 0 off 64 cap)), (2, .a (.ptr 1 0)), (3, .a (.ptr 2 0)), (4, .a (.int .i64 i))] ∧ H = [.cells cs 5 mk, .cells zs 69 false, .cells ws 69 false]) 64 ?_ ?_
  · refine Into.weak [0, 1, 2] _ _ ⟨0, zs, _, by omega, rfl, hz, by simp, fun j hj => absurd hj (Nat.not_lt_zero j), rfl, rfl⟩ ⟨rfl, rfl, rfl, rfl, trivial⟩ ⟨ren_fv hcs _ _ _, ren_fw hz _ _ _, ren_fw hz _ _ _, trivial⟩ ?_
    simp [nodupb, baseb, Ob.okb, frmOk, V.okb, A.okb, all_fv hcs, all_fw hz] <;> decide
  · rintro m F H ⟨i, ws, W, hi, rfl, hws, hW, hWi, rfl, rfl⟩
    conv => whnf
    refine condm_of (fun h => ?_) (fun h => ?_)
    · have hi64 : i < 64 := by have := of_decide_eq_true h; omega
      have e4 : IntKind.i64.wrap (↑i + 1) = ((i + 1 : Nat) : Int) := by rw [i64w (by omega) (by omega)]; rfl
      conv => whnf
      refine condm_of (fun h => ?_) (fun h => ?_)
      · have hi16 : i < 16 := by have := of_decide_eq_true h; omega
        have hl : ∀ (k : Nat) (z : Int), z = ((4 * i + k : Nat) : Int) → k < 4 → cs[off + z.toNat * Try.prog.types[5].size]? = some (.int .u8 ((B.getD (4 * i + k) 0).toNat : Int)) := by
          intro k z hz hk
          subst hz
          rw [s5, Int.toNat_natCast, Nat.mul_one, fv_get hcs (by omega)]
          have := hB (4 * i + k) (by omega)
          rw [List.getElem?_eq_getElem (by omega)] at this
          injection this with this
          rw [this]
        have hw : wordAt B i = word (B.getD (4 * i + 0) 0) (B.getD (4 * i + 1) 0) (B.getD (4 * i + 2) 0) (B.getD (4 * i + 3) 0) := by unfold wordAt; rfl
        conv => whnf
        repeat' (first
          | ((with_reducible refine regx_of ?_ ?_); (· decide +kernel); conv => whnf)
          | ((with_reducible refine growx_pre ?_ ?_); (· exact ⟨_, rfl⟩); conv => whnf)
          | ((with_reducible refine needm_of ?_ ?_); (· first | assumption | exact decide_eq_true (by omega) | exact mkOK_of (by decide) | decide +kernel | (refine decide_eq_true ?_; simp (disch := omega) only [i64w]; omega)); conv => whnf)
          | ((with_reducible refine condm_pos ?_ ?_); (· assumption); conv => whnf)
          | ((with_reducible refine condm_neg ?_ ?_); (· assumption); conv => whnf)
          | ((with_reducible refine forceL_fv (by assumption) ?_); conv => whnf)
          | ((with_reducible refine forceL_rfv (by assumption) ?_); conv => whnf)
          | ((with_reducible refine forceNm_of ?_); conv => whnf)
          | ((with_reducible refine needm_of (fv_lenL (by assumption) (by assumption)) ?_); conv => whnf)
          | ((with_reducible refine optm_var (fv_strL (by assumption) (by assumption)) (fun s hs => ?_)); conv => whnf)
          | ((with_reducible refine forceA_of ?_); conv => whnf)
          | ((with_reducible refine forceL_fw (by assumption) ?_); conv => whnf)
          | ((with_reducible refine forceL_rfw (by assumption) ?_); conv => whnf)
          | ((with_reducible refine forceL_fl (by assumption) ?_); conv => whnf)
          | ((with_reducible refine forceL_rfl (by assumption) ?_); conv => whnf)
          | ((with_reducible refine optm_of (hl 0 _ ?_ (by decide)) ?_); (· (simp (disch := omega) only [i64w]); omega); conv => whnf)
          | ((with_reducible refine optm_of (hl 1 _ ?_ (by decide)) ?_); (· (simp (disch := omega) only [i64w]); omega); conv => whnf)
          | ((with_reducible refine optm_of (hl 2 _ ?_ (by decide)) ?_); (· (simp (disch := omega) only [i64w]); omega); conv => whnf)
          | ((with_reducible refine optm_of (hl 3 _ ?_ (by decide)) ?_); (· (simp (disch := omega) only [i64w]); omega); conv => whnf)
          | fail)
        clear hl
        generalize B.getD (4 * i + 0) 0 = b0 at *
        generalize B.getD (4 * i + 1) 0 = b1 at *
        generalize B.getD (4 * i + 2) 0 = b2 at *
        generalize B.getD (4 * i + 3) 0 = b3 at *
        rw [w_of8 b0, w_of8 b1, w_of8 b2, w_of8 b3, w_shl (w8 b0) (k := 24) (n := 24) (m := 24) rfl rfl, w_shl (w8 b1) (k := 16) (n := 16) (m := 16) rfl rfl, w_shl (w8 b2) (k := 8) (n := 8) (m := 8) rfl rfl, w_add, w_add, w_add]
        unfold word at hw
        generalize shl (w8 b0) 24 + shl (w8 b1) 16 + shl (w8 b2) 8 + w8 b3 = x at *
        refine needm_of (by rw [fw_len hws, s32]; simp; omega) ?_
        conv => whnf
        repeat' (first
          | ((with_reducible refine regx_of ?_ ?_); (· decide +kernel); conv => whnf)
          | ((with_reducible refine growx_pre ?_ ?_); (· exact ⟨_, rfl⟩); conv => whnf)
          | ((with_reducible refine needm_of ?_ ?_); (· first | assumption | exact decide_eq_true (by omega) | exact mkOK_of (by decide) | decide +kernel | (refine decide_eq_true ?_; simp (disch := omega) only [i64w]; omega)); conv => whnf)
          | ((with_reducible refine condm_pos ?_ ?_); (· assumption); conv => whnf)
          | ((with_reducible refine condm_neg ?_ ?_); (· assumption); conv => whnf)
          | ((with_reducible refine forceL_fv (by assumption) ?_); conv => whnf)
          | ((with_reducible refine forceL_rfv (by assumption) ?_); conv => whnf)
          | ((with_reducible refine forceNm_of ?_); conv => whnf)
          | ((with_reducible refine needm_of (fv_lenL (by assumption) (by assumption)) ?_); conv => whnf)
          | ((with_reducible refine optm_var (fv_strL (by assumption) (by assumption)) (fun s hs => ?_)); conv => whnf)
          | ((with_reducible refine forceA_of ?_); conv => whnf)
          | ((with_reducible refine forceL_fw (by assumption) ?_); conv => whnf)
          | ((with_reducible refine forceL_rfw (by assumption) ?_); conv => whnf)
          | ((with_reducible refine forceL_fl (by assumption) ?_); conv => whnf)
          | ((with_reducible refine forceL_rfl (by assumption) ?_); conv => whnf)
          | fail)
        refine forceL_var (fw_setN hws (n := i) (by rw [s32, Nat.zero_add, Nat.mul_one, Int.toNat_natCast])) (fun ws' hws' => ?_)
        conv => whnf
        repeat' (first
          | ((with_reducible refine regx_of ?_ ?_); (· decide +kernel); conv => whnf)
          | ((with_reducible refine growx_pre ?_ ?_); (· exact ⟨_, rfl⟩); conv => whnf)
          | ((with_reducible refine needm_of ?_ ?_); (· first | assumption | exact decide_eq_true (by omega) | exact mkOK_of (by decide) | decide +kernel | (refine decide_eq_true ?_; simp (disch := omega) only [i64w]; omega)); conv => whnf)
          | ((with_reducible refine condm_pos ?_ ?_); (· assumption); conv => whnf)
          | ((with_reducible refine condm_neg ?_ ?_); (· assumption); conv => whnf)
          | ((with_reducible refine forceL_fv (by assumption) ?_); conv => whnf)
          | ((with_reducible refine forceL_rfv (by assumption) ?_); conv => whnf)
          | ((with_reducible refine forceNm_of ?_); conv => whnf)
          | ((with_reducible refine needm_of (fv_lenL (by assumption) (by assumption)) ?_); conv => whnf)
          | ((with_reducible refine optm_var (fv_strL (by assumption) (by assumption)) (fun s hs => ?_)); conv => whnf)
          | ((with_reducible refine forceA_of ?_); conv => whnf)
          | ((with_reducible refine forceL_fw (by assumption) ?_); conv => whnf)
          | ((with_reducible refine forceL_rfw (by assumption) ?_); conv => whnf)
          | ((with_reducible refine forceL_fl (by assumption) ?_); conv => whnf)
          | ((with_reducible refine forceL_rfl (by assumption) ?_); conv => whnf)
          | fail)
        refine ⟨64 - (i + 1), by omega, Into.weak [0, 1, 2] _ _ ⟨i + 1, ws', _, by omega, rfl, hws', by rw [List.length_set]; exact hW, ?_, rfl, rfl⟩ ⟨rfl, rfl, rfl, congrArg (fun z => some (V.a (.int .i64 z))) e4, trivial⟩ ⟨ren_fv hcs _ _ _, ren_fw hz _ _ _, ren_fw hws' _ _ _, trivial⟩ ?_⟩
        · intro j hj
          rw [List.getElem?_set]
          by_cases e : i = j
          · subst e
            rw [if_pos rfl, if_pos (by omega), wd_lt hi16, hw]
          · rw [if_neg e]
            exact hWi j (by omega)
        · simp [nodupb, baseb, Ob.okb, frmOk, V.okb, A.okb, all_fv hcs, all_fw hz, all_fw hws'] <;> decide
      · have hi16 : ¬ i < 16 := by have := of_decide_eq_false h; omega
        have hg : ∀ (k : Nat) (z : Int), z = (i : Int) - k → 1 ≤ k → k ≤ 16 → ws[0 + z.toNat * Try.prog.types[32].size]? = some (.int .u32 ((wd B (i - k)).toNat : Int)) := by
          intro k z hz h1 h2
          rw [s32, Nat.mul_one, Nat.zero_add]
          exact fw_get hws (by rw [show z.toNat = i - k by omega]; exact hWi _ (by omega))
        have hw := wd_ge (B := B) hi16
        unfold lo0 lo1 at hw
        conv => whnf
        repeat' (first
          | ((with_reducible refine regx_of ?_ ?_); (· decide +kernel); conv => whnf)
          | ((with_reducible refine growx_pre ?_ ?_); (· exact ⟨_, rfl⟩); conv => whnf)
          | ((with_reducible refine needm_of ?_ ?_); (· first | assumption | exact decide_eq_true (by omega) | exact mkOK_of (by decide) | decide +kernel | (refine decide_eq_true ?_; simp (disch := omega) only [i64w]; omega)); conv => whnf)
          | ((with_reducible refine condm_pos ?_ ?_); (· assumption); conv => whnf)
          | ((with_reducible refine condm_neg ?_ ?_); (· assumption); conv => whnf)
          | ((with_reducible refine forceL_fv (by assumption) ?_); conv => whnf)
          | ((with_reducible refine forceL_rfv (by assumption) ?_); conv => whnf)
          | ((with_reducible refine forceNm_of ?_); conv => whnf)
          | ((with_reducible refine needm_of (fv_lenL (by assumption) (by assumption)) ?_); conv => whnf)
          | ((with_reducible refine optm_var (fv_strL (by assumption) (by assumption)) (fun s hs => ?_)); conv => whnf)
          | ((with_reducible refine forceA_of ?_); conv => whnf)
          | ((with_reducible refine forceL_fw (by assumption) ?_); conv => whnf)
          | ((with_reducible refine forceL_rfw (by assumption) ?_); conv => whnf)
          | ((with_reducible refine forceL_fl (by assumption) ?_); conv => whnf)
          | ((with_reducible refine forceL_rfl (by assumption) ?_); conv => whnf)
          | ((with_reducible refine optm_of (hg 16 _ ?_ (by decide) (by decide)) ?_); (· (simp (disch := omega) only [i64w]); omega); conv => whnf)
          | ((with_reducible refine optm_of (hg 15 _ ?_ (by decide) (by decide)) ?_); (· (simp (disch := omega) only [i64w]); omega); conv => whnf)
          | ((with_reducible refine optm_of (hg 7 _ ?_ (by decide) (by decide)) ?_); (· (simp (disch := omega) only [i64w]); omega); conv => whnf)
          | ((with_reducible refine optm_of (hg 2 _ ?_ (by decide) (by decide)) ?_); (· (simp (disch := omega) only [i64w]); omega); conv => whnf)
          | ((refine Go.Eng.Fn.frame [] (by rfl) (by exact trivial) (by rfl) (right44 _ 7 _ rfl (by decide) (by decide) (fun r hr => ?_))); subst hr; conv => whnf)
          | ((refine Go.Eng.Fn.frame [] (by rfl) (by exact trivial) (by rfl) (right44 _ 18 _ rfl (by decide) (by decide) (fun r hr => ?_))); subst hr; conv => whnf)
          | ((refine Go.Eng.Fn.frame [] (by rfl) (by exact trivial) (by rfl) (right44 _ 17 _ rfl (by decide) (by decide) (fun r hr => ?_))); subst hr; conv => whnf)
          | ((refine Go.Eng.Fn.frame [] (by rfl) (by exact trivial) (by rfl) (right44 _ 19 _ rfl (by decide) (by decide) (fun r hr => ?_))); subst hr; conv => whnf)
          | fail)
        generalize wd B (i - 16) = w16 at *
        generalize wd B (i - 15) = w15 at *
        generalize wd B (i - 7) = w7 at *
        generalize wd B (i - 2) = w2 at *
        rw [w_shr w15 (k := 3) (n := 3) rfl, w_shr w2 (k := 10) (n := 10) rfl, w_xor, w_xor, w_xor, w_xor, w_add, w_add, w_add, ← hw]
        generalize hwx : wd B i = x at *
        refine needm_of (by rw [fw_len hws, s32]; simp; omega) ?_
        conv => whnf
        repeat' (first
          | ((with_reducible refine regx_of ?_ ?_); (· decide +kernel); conv => whnf)
          | ((with_reducible refine growx_pre ?_ ?_); (· exact ⟨_, rfl⟩); conv => whnf)
          | ((with_reducible refine needm_of ?_ ?_); (· first | assumption | exact decide_eq_true (by omega) | exact mkOK_of (by decide) | decide +kernel | (refine decide_eq_true ?_; simp (disch := omega) only [i64w]; omega)); conv => whnf)
          | ((with_reducible refine condm_pos ?_ ?_); (· assumption); conv => whnf)
          | ((with_reducible refine condm_neg ?_ ?_); (· assumption); conv => whnf)
          | ((with_reducible refine forceL_fv (by assumption) ?_); conv => whnf)
          | ((with_reducible refine forceL_rfv (by assumption) ?_); conv => whnf)
          | ((with_reducible refine forceNm_of ?_); conv => whnf)
          | ((with_reducible refine needm_of (fv_lenL (by assumption) (by assumption)) ?_); conv => whnf)
          | ((with_reducible refine optm_var (fv_strL (by assumption) (by assumption)) (fun s hs => ?_)); conv => whnf)
          | ((with_reducible refine forceA_of ?_); conv => whnf)
          | ((with_reducible refine forceL_fw (by assumption) ?_); conv => whnf)
          | ((with_reducible refine forceL_rfw (by assumption) ?_); conv => whnf)
          | ((with_reducible refine forceL_fl (by assumption) ?_); conv => whnf)
          | ((with_reducible refine forceL_rfl (by assumption) ?_); conv => whnf)
          | fail)
        refine forceL_var (fw_setN hws (n := i) (by rw [s32, Nat.zero_add, Nat.mul_one, Int.toNat_natCast])) (fun ws' hws' => ?_)
        conv => whnf
        repeat' (first
          | ((with_reducible refine regx_of ?_ ?_); (· decide +kernel); conv => whnf)
          | ((with_reducible refine growx_pre ?_ ?_); (· exact ⟨_, rfl⟩); conv => whnf)
          | ((with_reducible refine needm_of ?_ ?_); (· first | assumption | exact decide_eq_true (by omega) | exact mkOK_of (by decide) | decide +kernel | (refine decide_eq_true ?_; simp (disch := omega) only [i64w]; omega)); conv => whnf)
          | ((with_reducible refine condm_pos ?_ ?_); (· assumption); conv => whnf)
          | ((with_reducible refine condm_neg ?_ ?_); (· assumption); conv => whnf)
          | ((with_reducible refine forceL_fv (by assumption) ?_); conv => whnf)
          | ((with_reducible refine forceL_rfv (by assumption) ?_); conv => whnf)
          | ((with_reducible refine forceNm_of ?_); conv => whnf)
          | ((with_reducible refine needm_of (fv_lenL (by assumption) (by assumption)) ?_); conv => whnf)
          | ((with_reducible refine optm_var (fv_strL (by assumption) (by assumption)) (fun s hs => ?_)); conv => whnf)
          | ((with_reducible refine forceA_of ?_); conv => whnf)
          | ((with_reducible refine forceL_fw (by assumption) ?_); conv => whnf)
          | ((with_reducible refine forceL_rfw (by assumption) ?_); conv => whnf)
          | ((with_reducible refine forceL_fl (by assumption) ?_); conv => whnf)
          | ((with_reducible refine forceL_rfl (by assumption) ?_); conv => whnf)
          | fail)
        refine ⟨64 - (i + 1), by omega, Into.weak [0, 1, 2] _ _ ⟨i + 1, ws', _, by omega, rfl, hws', by rw [List.length_set]; exact hW, ?_, rfl, rfl⟩ ⟨rfl, rfl, rfl, congrArg (fun z => some (V.a (.int .i64 z))) e4, trivial⟩ ⟨ren_fv hcs _ _ _, ren_fw hz _ _ _, ren_fw hws' _ _ _, trivial⟩ ?_⟩
        · intro j hj
          rw [List.getElem?_set]
          by_cases e : i = j
          · subst e
            rw [if_pos rfl, if_pos (by omega), hwx]
          · rw [if_neg e]
            exact hWi j (by omega)
        · simp [nodupb, baseb, Ob.okb, frmOk, V.okb, A.okb, all_fv hcs, all_fw hz, all_fw hws'] <;> decide
    · conv => whnf
      repeat' (first
        | ((with_reducible refine regx_of ?_ ?_); (· decide +kernel); conv => whnf)
        | ((with_reducible refine growx_pre ?_ ?_); (· exact ⟨_, rfl⟩); conv => whnf)
        | ((with_reducible refine needm_of ?_ ?_); (· first | assumption | exact decide_eq_true (by omega) | exact mkOK_of (by decide) | decide +kernel | (refine decide_eq_true ?_; simp (disch := omega) only [i64w]; omega)); conv => whnf)
        | ((with_reducible refine condm_pos ?_ ?_); (· assumption); conv => whnf)
        | ((with_reducible refine condm_neg ?_ ?_); (· assumption); conv => whnf)
        | ((with_reducible refine forceL_fv (by assumption) ?_); conv => whnf)
        | ((with_reducible refine forceL_rfv (by assumption) ?_); conv => whnf)
        | ((with_reducible refine forceNm_of ?_); conv => whnf)
        | ((with_reducible refine needm_of (fv_lenL (by assumption) (by assumption)) ?_); conv => whnf)
        | ((with_reducible refine optm_var (fv_strL (by assumption) (by assumption)) (fun s hs => ?_)); conv => whnf)
        | ((with_reducible refine forceA_of ?_); conv => whnf)
        | ((with_reducible refine forceL_fw (by assumption) ?_); conv => whnf)
        | ((with_reducible refine forceL_rfw (by assumption) ?_); conv => whnf)
        | ((with_reducible refine forceL_fl (by assumption) ?_); conv => whnf)
        | ((with_reducible refine forceL_rfl (by assumption) ?_); conv => whnf)
        | fail)
      have h64 : i = 64 := by have := of_decide_eq_false h; omega
      subst h64
      have hl : ws.length = Try.prog.types[69].size := by rw [fw_len hws, s69]; exact hW
      have hlz : zs.length = ws.length := by rw [fw_len hz, hl, s69]; rfl
      refine needm_of (decide_eq_true (by omega)) ?_
      conv => whnf
      refine forceL_to (whole_of hl) ?_
      conv => whnf
      repeat' (first
        | ((with_reducible refine regx_of ?_ ?_); (· decide +kernel); conv => whnf)
        | ((with_reducible refine growx_pre ?_ ?_); (· exact ⟨_, rfl⟩); conv => whnf)
        | ((with_reducible refine needm_of ?_ ?_); (· first | assumption | exact decide_eq_true (by omega) | exact mkOK_of (by decide) | decide +kernel | (refine decide_eq_true ?_; simp (disch := omega) only [i64w]; omega)); conv => whnf)
        | ((with_reducible refine condm_pos ?_ ?_); (· assumption); conv => whnf)
        | ((with_reducible refine condm_neg ?_ ?_); (· assumption); conv => whnf)
        | ((with_reducible refine forceL_fv (by assumption) ?_); conv => whnf)
        | ((with_reducible refine forceL_rfv (by assumption) ?_); conv => whnf)
        | ((with_reducible refine forceNm_of ?_); conv => whnf)
        | ((with_reducible refine needm_of (fv_lenL (by assumption) (by assumption)) ?_); conv => whnf)
        | ((with_reducible refine optm_var (fv_strL (by assumption) (by assumption)) (fun s hs => ?_)); conv => whnf)
        | ((with_reducible refine forceA_of ?_); conv => whnf)
        | ((with_reducible refine forceL_fw (by assumption) ?_); conv => whnf)
        | ((with_reducible refine forceL_rfw (by assumption) ?_); conv => whnf)
        | ((with_reducible refine forceL_fl (by assumption) ?_); conv => whnf)
        | ((with_reducible refine forceL_rfl (by assumption) ?_); conv => whnf)
        | fail)
      refine needm_of (by simp [hl, hlz]) ?_
      conv => whnf
      repeat' (first
        | ((with_reducible refine regx_of ?_ ?_); (· decide +kernel); conv => whnf)
        | ((with_reducible refine growx_pre ?_ ?_); (· exact ⟨_, rfl⟩); conv => whnf)
        | ((with_reducible refine needm_of ?_ ?_); (· first | assumption | exact decide_eq_true (by omega) | exact mkOK_of (by decide) | decide +kernel | (refine decide_eq_true ?_; simp (disch := omega) only [i64w]; omega)); conv => whnf)
        | ((with_reducible refine condm_pos ?_ ?_); (· assumption); conv => whnf)
        | ((with_reducible refine condm_neg ?_ ?_); (· assumption); conv => whnf)
        | ((with_reducible refine forceL_fv (by assumption) ?_); conv => whnf)
        | ((with_reducible refine forceL_rfv (by assumption) ?_); conv => whnf)
        | ((with_reducible refine forceNm_of ?_); conv => whnf)
        | ((with_reducible refine needm_of (fv_lenL (by assumption) (by assumption)) ?_); conv => whnf)
        | ((with_reducible refine optm_var (fv_strL (by assumption) (by assumption)) (fun s hs => ?_)); conv => whnf)
        | ((with_reducible refine forceA_of ?_); conv => whnf)
        | ((with_reducible refine forceL_fw (by assumption) ?_); conv => whnf)
        | ((with_reducible refine forceL_rfw (by assumption) ?_); conv => whnf)
        | ((with_reducible refine forceL_fl (by assumption) ?_); conv => whnf)
        | ((with_reducible refine forceL_rfl (by assumption) ?_); conv => whnf)
        | fail)
      refine forceL_to (store_all hlz) ?_
      conv => whnf
      repeat' (first
        | ((with_reducible refine regx_of ?_ ?_); (· decide +kernel); conv => whnf)
        | ((with_reducible refine growx_pre ?_ ?_); (· exact ⟨_, rfl⟩); conv => whnf)
        | ((with_reducible refine needm_of ?_ ?_); (· first | assumption | exact decide_eq_true (by omega) | exact mkOK_of (by decide) | decide +kernel | (refine decide_eq_true ?_; simp (disch := omega) only [i64w]; omega)); conv => whnf)
        | ((with_reducible refine condm_pos ?_ ?_); (· assumption); conv => whnf)
        | ((with_reducible refine condm_neg ?_ ?_); (· assumption); conv => whnf)
        | ((with_reducible refine forceL_fv (by assumption) ?_); conv => whnf)
        | ((with_reducible refine forceL_rfv (by assumption) ?_); conv => whnf)
        | ((with_reducible refine forceNm_of ?_); conv => whnf)
        | ((with_reducible refine needm_of (fv_lenL (by assumption) (by assumption)) ?_); conv => whnf)
        | ((with_reducible refine optm_var (fv_strL (by assumption) (by assumption)) (fun s hs => ?_)); conv => whnf)
        | ((with_reducible refine forceA_of ?_); conv => whnf)
        | ((with_reducible refine forceL_fw (by assumption) ?_); conv => whnf)
        | ((with_reducible refine forceL_rfw (by assumption) ?_); conv => whnf)
        | ((with_reducible refine forceL_fl (by assumption) ?_); conv => whnf)
        | ((with_reducible refine forceL_rfl (by assumption) ?_); conv => whnf)
        | fail)
      rw [whole_of hl]
      exact keepOf (v₀ := .g ws) [.cells cs 5 mk] [0] (by rw [hws]; simp [V.ren, u32s, A.ren]) ⟨ren_fv hcs _ _ _, trivial⟩ (by simp [nodupb, baseb, Ob.okb, frmOk, V.okb, all_fv hcs, all_fw hws]) (hK ws W hws hW hWi)
end
end Go.Proofs.Ytglbldhineggaaa.DG
