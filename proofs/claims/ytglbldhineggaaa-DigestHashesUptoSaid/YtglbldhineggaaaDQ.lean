import Derived.Test.YtglbldhineggaaaDP
namespace Go.Proofs.Ytglbldhineggaaa.DG
open Go.Eng
set_option maxRecDepth 100000
section
variable {ro : Addr → A → Prop}
/-- A slice of bytes that was handed in: nil, or in memory that stays. -/
def Src (ro : Addr → A → Prop) (x : A) (L : List UInt8) : Prop := (x = .nils ∧ L = []) ∨ ∃ p cap, x = .rslc p L.length cap ∧ ∀ j y, (u8s L)[j]? = some y → ro (p.add j) y
@[irreducible] def marks (k : Nat) : List UInt8 := (List.range k).map fun j => UInt8.ofNat (150 + j)
theorem marks_length (k : Nat) : (marks k).length = k := by simp [marks]
theorem marks_0 : marks 0 = [] := by unfold marks; rfl
theorem marks_succ (k : Nat) : marks k ++ [UInt8.ofNat (150 + k)] = marks (k + 1) := by simp [marks, List.range_succ]
theorem marks_get {k i : Nat} (h : i < k) : (marks k)[i]? = some (UInt8.ofNat (150 + i)) := by simp [marks, h]
set_option maxHeartbeats 1000000 in
theorem lent19 (x : A) (L : List UInt8) (hx : Src ro x L) (hn : L.length + 66 ≤ 140737488355328) {K : V → Hp → Prop} (hK : ∀ y cs cap, cs = u8s (L ++ marks 66 ++ y) → cap = L.length + 66 + y.length → K (.a (.slc 0 0 L.length cap)) [.cells cs 5 false]) :
    Go.Eng.Fn Try.prog ro 19 [.a x] [] K := by
  refine Go.Eng.Fn.weak ?_
  refine Go.Eng.Fn.of_code (gOf []) Try.func19 rfl (Nat.le_of_ble_eq_true rfl) ?_
  rcases hx with ⟨rfl, hL⟩ | ⟨p, cap₀, rfl, hro⟩
  · conv => whnf
    repeat' (first
      | ((with_reducible refine regx_of ?_ ?_); (· decide +kernel); conv => whnf)
      | ((with_reducible refine growx_pre ?_ ?_); (· exact ⟨_, rfl⟩); conv => whnf)
      | ((with_reducible refine needm_of ?_ ?_); (· first | assumption | exact decide_eq_true (by omega) | exact mkOK_of (by decide) | decide +kernel | (refine decide_eq_true ?_; simp (disch := omega) only [i64w]; omega)); conv => whnf)
      | ((with_reducible refine condm_pos ?_ ?_); (· assumption); conv => whnf)
      | ((with_reducible refine condm_neg ?_ ?_); (· assumption); conv => whnf)
      | ((with_reducible refine forceL_fv (by assumption) ?_); conv => whnf)
      | ((with_reducible refine forceL_rfv (by assumption) ?_); conv => whnf)
      | ((with_reducible refine forceNm_of ?_); conv => whnf)
      | ((with_reducible refine needm_of (fv_lenL (by assumption) (by assumption)) ?_); conv => whnf)
      | ((with_reducible refine optm_var (fv_strL (by assumption) (by assumption)) (fun s hs => ?_)); conv => whnf)
      | ((with_reducible refine forceA_of ?_); conv => whnf)
      | ((with_reducible refine forceL_fw (by assumption) ?_); conv => whnf)
      | ((with_reducible refine forceL_rfw (by assumption) ?_); conv => whnf)
      | ((with_reducible refine forceL_fl (by assumption) ?_); conv => whnf)
      | ((with_reducible refine forceL_rfl (by assumption) ?_); conv => whnf)
      | fail)
    refine loopx_of (fun m F H => ∃ (j : Nat) (y : List UInt8) (cs : List A) (len cap : Nat), j ≤ 66 ∧ m = 66 - j ∧ cs = u8s (L ++ marks j ++ y) ∧ len = L.length + j ∧ cap = len + y.length ∧ F = [(0, .a (.nils)), (3, .a (.slc 0 0 len cap)), (4, .a (.int .i64 j))] ∧ H = [.cells cs 5 false]) 66 ?_ ?_
    · refine Into.weak [0] _ _ ⟨0, [], [], 0, 0, by omega, rfl, by rw [marks_0, hL]; simp, by rw [hL]; rfl, rfl, rfl, rfl⟩ ⟨rfl, rfl, rfl, trivial⟩ ⟨rfl, trivial⟩ rfl
    · rintro m F H ⟨j, y, cs, len, cap, hj, rfl, hcs, hlen, hcap, rfl, rfl⟩
      have hlm : len = (L ++ marks j).length := by rw [List.length_append, marks_length, hlen]
      conv => whnf
      refine condm_of (fun h => ?_) (fun h => ?_)
      · have hj66 : j < 66 := by have := of_decide_eq_true h; omega
        have e4 : IntKind.i64.wrap (↑j + 1) = ((j + 1 : Nat) : Int) := by rw [i64w (by omega) (by omega)]; rfl
        have e5 : IntKind.u8.wrap (IntKind.i64.wrap (150 + ↑j)) = ((UInt8.ofNat (150 + j)).toNat : Int) := by
          rw [i64w (by omega) (by omega), wrap8, show (150 + (j : Int)) = ((150 + j : Nat) : Int) by omega, b8_ofNat]
        have hms := marks_succ j
        generalize UInt8.ofNat (150 + j) = b at *
        conv => whnf
        generalize IntKind.u8.wrap (IntKind.i64.wrap (150 + ↑j)) = v at *
        repeat' (first
          | ((with_reducible refine regx_of ?_ ?_); (· decide +kernel); conv => whnf)
          | ((with_reducible refine growx_pre ?_ ?_); (· exact ⟨_, rfl⟩); conv => whnf)
          | ((with_reducible refine needm_of ?_ ?_); (· first | assumption | exact decide_eq_true (by omega) | exact mkOK_of (by decide) | decide +kernel | (refine decide_eq_true ?_; simp (disch := omega) only [i64w]; omega)); conv => whnf)
          | ((with_reducible refine condm_pos ?_ ?_); (· assumption); conv => whnf)
          | ((with_reducible refine condm_neg ?_ ?_); (· assumption); conv => whnf)
          | ((with_reducible refine forceL_fv (by assumption) ?_); conv => whnf)
          | ((with_reducible refine forceL_rfv (by assumption) ?_); conv => whnf)
          | ((with_reducible refine forceNm_of ?_); conv => whnf)
          | ((with_reducible refine needm_of (fv_lenL (by assumption) (by assumption)) ?_); conv => whnf)
          | ((with_reducible refine optm_var (fv_strL (by assumption) (by assumption)) (fun s hs => ?_)); conv => whnf)
          | ((with_reducible refine forceA_of ?_); conv => whnf)
          | ((with_reducible refine forceL_fw (by assumption) ?_); conv => whnf)
          | ((with_reducible refine forceL_rfw (by assumption) ?_); conv => whnf)
          | ((with_reducible refine forceL_fl (by assumption) ?_); conv => whnf)
          | ((with_reducible refine forceL_rfl (by assumption) ?_); conv => whnf)
          | fail)
        refine condm_of (fun hc => ?_) (fun hc => ?_)
        · have hc' := of_decide_eq_true hc
          refine needm_of (decide_eq_true (by rw [s5, fv_len hcs, List.length_append, ← hlm]; simp only [List.length_drop, List.length_take, List.length_cons, List.length_nil]; omega)) ?_
          conv => whnf
          repeat' (first
            | ((with_reducible refine regx_of ?_ ?_); (· decide +kernel); conv => whnf)
            | ((with_reducible refine growx_pre ?_ ?_); (· exact ⟨_, rfl⟩); conv => whnf)
            | ((with_reducible refine needm_of ?_ ?_); (· first | assumption | exact decide_eq_true (by omega) | exact mkOK_of (by decide) | decide +kernel | (refine decide_eq_true ?_; simp (disch := omega) only [i64w]; omega)); conv => whnf)
            | ((with_reducible refine condm_pos ?_ ?_); (· assumption); conv => whnf)
            | ((with_reducible refine condm_neg ?_ ?_); (· assumption); conv => whnf)
            | ((with_reducible refine forceL_fv (by assumption) ?_); conv => whnf)
            | ((with_reducible refine forceL_rfv (by assumption) ?_); conv => whnf)
            | ((with_reducible refine forceNm_of ?_); conv => whnf)
            | ((with_reducible refine needm_of (fv_lenL (by assumption) (by assumption)) ?_); conv => whnf)
            | ((with_reducible refine optm_var (fv_strL (by assumption) (by assumption)) (fun s hs => ?_)); conv => whnf)
            | ((with_reducible refine forceA_of ?_); conv => whnf)
            | ((with_reducible refine forceL_fw (by assumption) ?_); conv => whnf)
            | ((with_reducible refine forceL_rfw (by assumption) ?_); conv => whnf)
            | ((with_reducible refine forceL_fl (by assumption) ?_); conv => whnf)
            | ((with_reducible refine forceL_rfl (by assumption) ?_); conv => whnf)
            | fail)
          refine forceL_var (app_in (b := b) hcs hlm s5 (by rw [List.length_append, ← hlm]; omega) e5) (fun cs' hcs' => ?_)
          rw [List.append_assoc L, hms] at hcs'
          conv => whnf
          repeat' (first
            | ((with_reducible refine regx_of ?_ ?_); (· decide +kernel); conv => whnf)
            | ((with_reducible refine growx_pre ?_ ?_); (· exact ⟨_, rfl⟩); conv => whnf)
            | ((with_reducible refine needm_of ?_ ?_); (· first | assumption | exact decide_eq_true (by omega) | exact mkOK_of (by decide) | decide +kernel | (refine decide_eq_true ?_; simp (disch := omega) only [i64w]; omega)); conv => whnf)
            | ((with_reducible refine condm_pos ?_ ?_); (· assumption); conv => whnf)
            | ((with_reducible refine condm_neg ?_ ?_); (· assumption); conv => whnf)
            | ((with_reducible refine forceL_fv (by assumption) ?_); conv => whnf)
            | ((with_reducible refine forceL_rfv (by assumption) ?_); conv => whnf)
            | ((with_reducible refine forceNm_of ?_); conv => whnf)
            | ((with_reducible refine needm_of (fv_lenL (by assumption) (by assumption)) ?_); conv => whnf)
            | ((with_reducible refine optm_var (fv_strL (by assumption) (by assumption)) (fun s hs => ?_)); conv => whnf)
            | ((with_reducible refine forceA_of ?_); conv => whnf)
            | ((with_reducible refine forceL_fw (by assumption) ?_); conv => whnf)
            | ((with_reducible refine forceL_rfw (by assumption) ?_); conv => whnf)
            | ((with_reducible refine forceL_fl (by assumption) ?_); conv => whnf)
            | ((with_reducible refine forceL_rfl (by assumption) ?_); conv => whnf)
            | fail)
          refine ⟨66 - (j + 1), by omega, Into.weak [0] _ _ ⟨j + 1, y.tail, cs', _, _, by omega, rfl, hcs', ?_, ?_, rfl, rfl⟩ ⟨rfl, rfl, congrArg (fun z => some (V.a (.int .i64 z))) e4, trivial⟩ ⟨ren_fv hcs' _ _ _, trivial⟩ ?_⟩
          · omega
          · rw [List.length_tail]; omega
          · simp [nodupb, baseb, Ob.okb, frmOk, V.okb, A.okb, all_fv hcs'] <;> decide
        · have hc' := of_decide_eq_false hc
          refine needm_of (decide_eq_true (by rw [s5, fv_len hcs, List.length_append, ← hlm]; exact ⟨by omega, by show (_ : Nat) * 1 ≤ _; omega, by omega⟩)) ?_
          intro cap' hcap'
          conv => whnf
          repeat' (first
            | ((with_reducible refine regx_of ?_ ?_); (· decide +kernel); conv => whnf)
            | ((with_reducible refine growx_pre ?_ ?_); (· exact ⟨_, rfl⟩); conv => whnf)
            | ((with_reducible refine needm_of ?_ ?_); (· first | assumption | exact decide_eq_true (by omega) | exact mkOK_of (by decide) | decide +kernel | (refine decide_eq_true ?_; simp (disch := omega) only [i64w]; omega)); conv => whnf)
            | ((with_reducible refine condm_pos ?_ ?_); (· assumption); conv => whnf)
            | ((with_reducible refine condm_neg ?_ ?_); (· assumption); conv => whnf)
            | ((with_reducible refine forceL_fv (by assumption) ?_); conv => whnf)
            | ((with_reducible refine forceL_rfv (by assumption) ?_); conv => whnf)
            | ((with_reducible refine forceNm_of ?_); conv => whnf)
            | ((with_reducible refine needm_of (fv_lenL (by assumption) (by assumption)) ?_); conv => whnf)
            | ((with_reducible refine optm_var (fv_strL (by assumption) (by assumption)) (fun s hs => ?_)); conv => whnf)
            | ((with_reducible refine forceA_of ?_); conv => whnf)
            | ((with_reducible refine forceL_fw (by assumption) ?_); conv => whnf)
            | ((with_reducible refine forceL_rfw (by assumption) ?_); conv => whnf)
            | ((with_reducible refine forceL_fl (by assumption) ?_); conv => whnf)
            | ((with_reducible refine forceL_rfl (by assumption) ?_); conv => whnf)
            | fail)
          refine forceL_var (app_new (b := b) hcs hlm s5 rfl e5) (fun cs' hcs' => ?_)
          rw [List.append_assoc L, hms] at hcs'
          conv => whnf
          repeat' (first
            | ((with_reducible refine regx_of ?_ ?_); (· decide +kernel); conv => whnf)
            | ((with_reducible refine growx_pre ?_ ?_); (· exact ⟨_, rfl⟩); conv => whnf)
            | ((with_reducible refine needm_of ?_ ?_); (· first | assumption | exact decide_eq_true (by omega) | exact mkOK_of (by decide) | decide +kernel | (refine decide_eq_true ?_; simp (disch := omega) only [i64w]; omega)); conv => whnf)
            | ((with_reducible refine condm_pos ?_ ?_); (· assumption); conv => whnf)
            | ((with_reducible refine condm_neg ?_ ?_); (· assumption); conv => whnf)
            | ((with_reducible refine forceL_fv (by assumption) ?_); conv => whnf)
            | ((with_reducible refine forceL_rfv (by assumption) ?_); conv => whnf)
            | ((with_reducible refine forceNm_of ?_); conv => whnf)
            | ((with_reducible refine needm_of (fv_lenL (by assumption) (by assumption)) ?_); conv => whnf)
            | ((with_reducible refine optm_var (fv_strL (by assumption) (by assumption)) (fun s hs => ?_)); conv => whnf)
            | ((with_reducible refine forceA_of ?_); conv => whnf)
            | ((with_reducible refine forceL_fw (by assumption) ?_); conv => whnf)
            | ((with_reducible refine forceL_rfw (by assumption) ?_); conv => whnf)
            | ((with_reducible refine forceL_fl (by assumption) ?_); conv => whnf)
            | ((with_reducible refine forceL_rfl (by assumption) ?_); conv => whnf)
            | fail)
          refine ⟨66 - (j + 1), by omega, Into.weak [2] _ _ ⟨j + 1, List.replicate (cap' - (len + 1)) 0, cs', _, _, by omega, rfl, hcs', ?_, ?_, rfl, rfl⟩ ⟨rfl, rfl, congrArg (fun z => some (V.a (.int .i64 z))) e4, trivial⟩ ⟨ren_fv hcs' _ _ _, trivial⟩ ?_⟩
          · omega
          · rw [List.length_replicate]; omega
          · simp [nodupb, baseb, Ob.okb, frmOk, V.okb, A.okb, all_fv hcs'] <;> decide
      · have h66 : j = 66 := by have := of_decide_eq_false h; omega
        subst h66
        conv => whnf
        repeat' (first
          | ((with_reducible refine regx_of ?_ ?_); (· decide +kernel); conv => whnf)
          | ((with_reducible refine growx_pre ?_ ?_); (· exact ⟨_, rfl⟩); conv => whnf)
          | ((with_reducible refine needm_of ?_ ?_); (· first | assumption | exact decide_eq_true (by omega) | exact mkOK_of (by decide) | decide +kernel | (refine decide_eq_true ?_; simp (disch := omega) only [i64w]; omega)); conv => whnf)
          | ((with_reducible refine condm_pos ?_ ?_); (· assumption); conv => whnf)
          | ((with_reducible refine condm_neg ?_ ?_); (· assumption); conv => whnf)
          | ((with_reducible refine forceL_fv (by assumption) ?_); conv => whnf)
          | ((with_reducible refine forceL_rfv (by assumption) ?_); conv => whnf)
          | ((with_reducible refine forceNm_of ?_); conv => whnf)
          | ((with_reducible refine needm_of (fv_lenL (by assumption) (by assumption)) ?_); conv => whnf)
          | ((with_reducible refine optm_var (fv_strL (by assumption) (by assumption)) (fun s hs => ?_)); conv => whnf)
          | ((with_reducible refine forceA_of ?_); conv => whnf)
          | ((with_reducible refine forceL_fw (by assumption) ?_); conv => whnf)
          | ((with_reducible refine forceL_rfw (by assumption) ?_); conv => whnf)
          | ((with_reducible refine forceL_fl (by assumption) ?_); conv => whnf)
          | ((with_reducible refine forceL_rfl (by assumption) ?_); conv => whnf)
          | fail)
        have e1 : (if cap = 0 then 0 else 0 + 0 * Try.prog.types[5].size) = 0 := by split <;> simp
        rw [e1]
        exact keepOf (v₀ := .a (.slc 0 0 L.length cap)) [.cells cs 5 false] [0] (by simp [V.ren, A.ren, dsOf, hL]) ⟨ren_fv hcs _ _ _, trivial⟩ (by simp [nodupb, baseb, Ob.okb, frmOk, V.okb, A.okb, all_fv hcs] <;> decide) (hK y cs cap hcs (by rw [hcap, hlen]))
  · conv => whnf
    repeat' (first
      | ((with_reducible refine regx_of ?_ ?_); (· decide +kernel); conv => whnf)
      | ((with_reducible refine growx_pre ?_ ?_); (· exact ⟨_, rfl⟩); conv => whnf)
      | ((with_reducible refine needm_of ?_ ?_); (· first | assumption | exact decide_eq_true (by omega) | exact mkOK_of (by decide) | decide +kernel | (refine decide_eq_true ?_; simp (disch := omega) only [i64w]; omega)); conv => whnf)
      | ((with_reducible refine condm_pos ?_ ?_); (· assumption); conv => whnf)
      | ((with_reducible refine condm_neg ?_ ?_); (· assumption); conv => whnf)
      | ((with_reducible refine forceL_fv (by assumption) ?_); conv => whnf)
      | ((with_reducible refine forceL_rfv (by assumption) ?_); conv => whnf)
      | ((with_reducible refine forceNm_of ?_); conv => whnf)
      | ((with_reducible refine needm_of (fv_lenL (by assumption) (by assumption)) ?_); conv => whnf)
      | ((with_reducible refine optm_var (fv_strL (by assumption) (by assumption)) (fun s hs => ?_)); conv => whnf)
      | ((with_reducible refine forceA_of ?_); conv => whnf)
      | ((with_reducible refine forceL_fw (by assumption) ?_); conv => whnf)
      | ((with_reducible refine forceL_rfw (by assumption) ?_); conv => whnf)
      | ((with_reducible refine forceL_fl (by assumption) ?_); conv => whnf)
      | ((with_reducible refine forceL_rfl (by assumption) ?_); conv => whnf)
      | fail)
    refine ⟨u8s L, by rw [u8s_length, s5, Nat.mul_one], hro, ?_⟩
    conv => whnf
    repeat' (first
      | ((with_reducible refine regx_of ?_ ?_); (· decide +kernel); conv => whnf)
      | ((with_reducible refine growx_pre ?_ ?_); (· exact ⟨_, rfl⟩); conv => whnf)
      | ((with_reducible refine needm_of ?_ ?_); (· first | assumption | exact decide_eq_true (by omega) | exact mkOK_of (by decide) | decide +kernel | (refine decide_eq_true ?_; simp (disch := omega) only [i64w]; omega)); conv => whnf)
      | ((with_reducible refine condm_pos ?_ ?_); (· assumption); conv => whnf)
      | ((with_reducible refine condm_neg ?_ ?_); (· assumption); conv => whnf)
      | ((with_reducible refine forceL_fv (by assumption) ?_); conv => whnf)
      | ((with_reducible refine forceL_rfv (by assumption) ?_); conv => whnf)
      | ((with_reducible refine forceNm_of ?_); conv => whnf)
      | ((with_reducible refine needm_of (fv_lenL (by assumption) (by assumption)) ?_); conv => whnf)
      | ((with_reducible refine optm_var (fv_strL (by assumption) (by assumption)) (fun s hs => ?_)); conv => whnf)
      | ((with_reducible refine forceA_of ?_); conv => whnf)
      | ((with_reducible refine forceL_fw (by assumption) ?_); conv => whnf)
      | ((with_reducible refine forceL_rfw (by assumption) ?_); conv => whnf)
      | ((with_reducible refine forceL_fl (by assumption) ?_); conv => whnf)
      | ((with_reducible refine forceL_rfl (by assumption) ?_); conv => whnf)
      | fail)
    refine condm_of (fun hc => ?_) (fun hc => ?_)
    · have hc' := of_decide_eq_true hc
      have hL : L = [] := List.length_eq_zero_iff.1 (by omega)
      have hL0 : L.length = 0 := by rw [hL]; rfl
      conv => whnf
      repeat' (first
        | ((with_reducible refine regx_of ?_ ?_); (· decide +kernel); conv => whnf)
        | ((with_reducible refine growx_pre ?_ ?_); (· exact ⟨_, rfl⟩); conv => whnf)
        | ((with_reducible refine needm_of ?_ ?_); (· first | assumption | exact decide_eq_true (by omega) | exact mkOK_of (by decide) | decide +kernel | (refine decide_eq_true ?_; simp (disch := omega) only [i64w]; omega)); conv => whnf)
        | ((with_reducible refine condm_pos ?_ ?_); (· assumption); conv => whnf)
        | ((with_reducible refine condm_neg ?_ ?_); (· assumption); conv => whnf)
        | ((with_reducible refine forceL_fv (by assumption) ?_); conv => whnf)
        | ((with_reducible refine forceL_rfv (by assumption) ?_); conv => whnf)
        | ((with_reducible refine forceNm_of ?_); conv => whnf)
        | ((with_reducible refine needm_of (fv_lenL (by assumption) (by assumption)) ?_); conv => whnf)
        | ((with_reducible refine optm_var (fv_strL (by assumption) (by assumption)) (fun s hs => ?_)); conv => whnf)
        | ((with_reducible refine forceA_of ?_); conv => whnf)
        | ((with_reducible refine forceL_fw (by assumption) ?_); conv => whnf)
        | ((with_reducible refine forceL_rfw (by assumption) ?_); conv => whnf)
        | ((with_reducible refine forceL_fl (by assumption) ?_); conv => whnf)
        | ((with_reducible refine forceL_rfl (by assumption) ?_); conv => whnf)
        | fail)
      refine needm_of (by rw [u8s_length, hL0]; rfl) ?_
      conv => whnf
      repeat' (first
        | ((with_reducible refine regx_of ?_ ?_); (· decide +kernel); conv => whnf)
        | ((with_reducible refine growx_pre ?_ ?_); (· exact ⟨_, rfl⟩); conv => whnf)
        | ((with_reducible refine needm_of ?_ ?_); (· first | assumption | exact decide_eq_true (by omega) | exact mkOK_of (by decide) | decide +kernel | (refine decide_eq_true ?_; simp (disch := omega) only [i64w]; omega)); conv => whnf)
        | ((with_reducible refine condm_pos ?_ ?_); (· assumption); conv => whnf)
        | ((with_reducible refine condm_neg ?_ ?_); (· assumption); conv => whnf)
        | ((with_reducible refine forceL_fv (by assumption) ?_); conv => whnf)
        | ((with_reducible refine forceL_rfv (by assumption) ?_); conv => whnf)
        | ((with_reducible refine forceNm_of ?_); conv => whnf)
        | ((with_reducible refine needm_of (fv_lenL (by assumption) (by assumption)) ?_); conv => whnf)
        | ((with_reducible refine optm_var (fv_strL (by assumption) (by assumption)) (fun s hs => ?_)); conv => whnf)
        | ((with_reducible refine forceA_of ?_); conv => whnf)
        | ((with_reducible refine forceL_fw (by assumption) ?_); conv => whnf)
        | ((with_reducible refine forceL_rfw (by assumption) ?_); conv => whnf)
        | ((with_reducible refine forceL_fl (by assumption) ?_); conv => whnf)
        | ((with_reducible refine forceL_rfl (by assumption) ?_); conv => whnf)
        | fail)
      refine forceL_to (l := storeL [] (0 + 0 * Try.prog.types[5].size) (u8s L)) (l' := []) (by rw [hL]; simp [storeL]) ?_
      conv => whnf
      repeat' (first
        | ((with_reducible refine regx_of ?_ ?_); (· decide +kernel); conv => whnf)
        | ((with_reducible refine growx_pre ?_ ?_); (· exact ⟨_, rfl⟩); conv => whnf)
        | ((with_reducible refine needm_of ?_ ?_); (· first | assumption | exact decide_eq_true (by omega) | exact mkOK_of (by decide) | decide +kernel | (refine decide_eq_true ?_; simp (disch := omega) only [i64w]; omega)); conv => whnf)
        | ((with_reducible refine condm_pos ?_ ?_); (· assumption); conv => whnf)
        | ((with_reducible refine condm_neg ?_ ?_); (· assumption); conv => whnf)
        | ((with_reducible refine forceL_fv (by assumption) ?_); conv => whnf)
        | ((with_reducible refine forceL_rfv (by assumption) ?_); conv => whnf)
        | ((with_reducible refine forceNm_of ?_); conv => whnf)
        | ((with_reducible refine needm_of (fv_lenL (by assumption) (by assumption)) ?_); conv => whnf)
        | ((with_reducible refine optm_var (fv_strL (by assumption) (by assumption)) (fun s hs => ?_)); conv => whnf)
        | ((with_reducible refine forceA_of ?_); conv => whnf)
        | ((with_reducible refine forceL_fw (by assumption) ?_); conv => whnf)
        | ((with_reducible refine forceL_rfw (by assumption) ?_); conv => whnf)
        | ((with_reducible refine forceL_fl (by assumption) ?_); conv => whnf)
        | ((with_reducible refine forceL_rfl (by assumption) ?_); conv => whnf)
        | fail)
      refine loopx_of (fun m F H => ∃ (j : Nat) (y : List UInt8) (cs : List A) (len cap : Nat), j ≤ 66 ∧ m = 66 - j ∧ cs = u8s (L ++ marks j ++ y) ∧ len = L.length + j ∧ cap = len + y.length ∧ F = [(0, .a (.rslc p L.length cap₀)), (3, .a (.slc 0 0 len cap)), (4, .a (.int .i64 j))] ∧ H = [.cells cs 5 false]) 66 ?_ ?_
      · refine Into.weak [0] _ _ ⟨0, [], [], 0 + L.length, 0, by omega, rfl, by rw [marks_0, hL]; simp, by omega, by rw [hL0]; rfl, rfl, rfl⟩ ⟨rfl, rfl, rfl, trivial⟩ ⟨rfl, trivial⟩ rfl
      · rintro m F H ⟨j, y, cs, len, cap, hj, rfl, hcs, hlen, hcap, rfl, rfl⟩
        have hlm : len = (L ++ marks j).length := by rw [List.length_append, marks_length, hlen]
        conv => whnf
        refine condm_of (fun h => ?_) (fun h => ?_)
        · have hj66 : j < 66 := by have := of_decide_eq_true h; omega
          have e4 : IntKind.i64.wrap (↑j + 1) = ((j + 1 : Nat) : Int) := by rw [i64w (by omega) (by omega)]; rfl
          have e5 : IntKind.u8.wrap (IntKind.i64.wrap (150 + ↑j)) = ((UInt8.ofNat (150 + j)).toNat : Int) := by
            rw [i64w (by omega) (by omega), wrap8, show (150 + (j : Int)) = ((150 + j : Nat) : Int) by omega, b8_ofNat]
          have hms := marks_succ j
          generalize UInt8.ofNat (150 + j) = b at *
          conv => whnf
          generalize IntKind.u8.wrap (IntKind.i64.wrap (150 + ↑j)) = v at *
          repeat' (first
            | ((with_reducible refine regx_of ?_ ?_); (· decide +kernel); conv => whnf)
            | ((with_reducible refine growx_pre ?_ ?_); (· exact ⟨_, rfl⟩); conv => whnf)
            | ((with_reducible refine needm_of ?_ ?_); (· first | assumption | exact decide_eq_true (by omega) | exact mkOK_of (by decide) | decide +kernel | (refine decide_eq_true ?_; simp (disch := omega) only [i64w]; omega)); conv => whnf)
            | ((with_reducible refine condm_pos ?_ ?_); (· assumption); conv => whnf)
            | ((with_reducible refine condm_neg ?_ ?_); (· assumption); conv => whnf)
            | ((with_reducible refine forceL_fv (by assumption) ?_); conv => whnf)
            | ((with_reducible refine forceL_rfv (by assumption) ?_); conv => whnf)
            | ((with_reducible refine forceNm_of ?_); conv => whnf)
            | ((with_reducible refine needm_of (fv_lenL (by assumption) (by assumption)) ?_); conv => whnf)
            | ((with_reducible refine optm_var (fv_strL (by assumption) (by assumption)) (fun s hs => ?_)); conv => whnf)
            | ((with_reducible refine forceA_of ?_); conv => whnf)
            | ((with_reducible refine forceL_fw (by assumption) ?_); conv => whnf)
            | ((with_reducible refine forceL_rfw (by assumption) ?_); conv => whnf)
            | ((with_reducible refine forceL_fl (by assumption) ?_); conv => whnf)
            | ((with_reducible refine forceL_rfl (by assumption) ?_); conv => whnf)
            | fail)
          refine condm_of (fun hc => ?_) (fun hc => ?_)
          · have hc' := of_decide_eq_true hc
            refine needm_of (decide_eq_true (by rw [s5, fv_len hcs, List.length_append, ← hlm]; simp only [List.length_drop, List.length_take, List.length_cons, List.length_nil]; omega)) ?_
            conv => whnf
            repeat' (first
              | ((with_reducible refine regx_of ?_ ?_); (· decide +kernel); conv => whnf)
              | ((with_reducible refine growx_pre ?_ ?_); (· exact ⟨_, rfl⟩); conv => whnf)
              | ((with_reducible refine needm_of ?_ ?_); (· first | assumption | exact decide_eq_true (by omega) | exact mkOK_of (by decide) | decide +kernel | (refine decide_eq_true ?_; simp (disch := omega) only [i64w]; omega)); conv => whnf)
              | ((with_reducible refine condm_pos ?_ ?_); (· assumption); conv => whnf)
              | ((with_reducible refine condm_neg ?_ ?_); (· assumption); conv => whnf)
              | ((with_reducible refine forceL_fv (by assumption) ?_); conv => whnf)
              | ((with_reducible refine forceL_rfv (by assumption) ?_); conv => whnf)
              | ((with_reducible refine forceNm_of ?_); conv => whnf)
              | ((with_reducible refine needm_of (fv_lenL (by assumption) (by assumption)) ?_); conv => whnf)
              | ((with_reducible refine optm_var (fv_strL (by assumption) (by assumption)) (fun s hs => ?_)); conv => whnf)
              | ((with_reducible refine forceA_of ?_); conv => whnf)
              | ((with_reducible refine forceL_fw (by assumption) ?_); conv => whnf)
              | ((with_reducible refine forceL_rfw (by assumption) ?_); conv => whnf)
              | ((with_reducible refine forceL_fl (by assumption) ?_); conv => whnf)
              | ((with_reducible refine forceL_rfl (by assumption) ?_); conv => whnf)
              | fail)
            refine forceL_var (app_in (b := b) hcs hlm s5 (by rw [List.length_append, ← hlm]; omega) e5) (fun cs' hcs' => ?_)
            rw [List.append_assoc L, hms] at hcs'
            conv => whnf
            repeat' (first
              | ((with_reducible refine regx_of ?_ ?_); (· decide +kernel); conv => whnf)
              | ((with_reducible refine growx_pre ?_ ?_); (· exact ⟨_, rfl⟩); conv => whnf)
              | ((with_reducible refine needm_of ?_ ?_); (· first | assumption | exact decide_eq_true (by omega) | exact mkOK_of (by decide) | decide +kernel | (refine decide_eq_true ?_; simp (disch := omega) only [i64w]; omega)); conv => whnf)
              | ((with_reducible refine condm_pos ?_ ?_); (· assumption); conv => whnf)
              | ((with_reducible refine condm_neg ?_ ?_); (· assumption); conv => whnf)
              | ((with_reducible refine forceL_fv (by assumption) ?_); conv => whnf)
              | ((with_reducible refine forceL_rfv (by assumption) ?_); conv => whnf)
              | ((with_reducible refine forceNm_of ?_); conv => whnf)
              | ((with_reducible refine needm_of (fv_lenL (by assumption) (by assumption)) ?_); conv => whnf)
              | ((with_reducible refine optm_var (fv_strL (by assumption) (by assumption)) (fun s hs => ?_)); conv => whnf)
              | ((with_reducible refine forceA_of ?_); conv => whnf)
              | ((with_reducible refine forceL_fw (by assumption) ?_); conv => whnf)
              | ((with_reducible refine forceL_rfw (by assumption) ?_); conv => whnf)
              | ((with_reducible refine forceL_fl (by assumption) ?_); conv => whnf)
              | ((with_reducible refine forceL_rfl (by assumption) ?_); conv => whnf)
              | fail)
            refine ⟨66 - (j + 1), by omega, Into.weak [0] _ _ ⟨j + 1, y.tail, cs', _, _, by omega, rfl, hcs', ?_, ?_, rfl, rfl⟩ ⟨rfl, rfl, congrArg (fun z => some (V.a (.int .i64 z))) e4, trivial⟩ ⟨ren_fv hcs' _ _ _, trivial⟩ ?_⟩
            · omega
            · rw [List.length_tail]; omega
            · simp [nodupb, baseb, Ob.okb, frmOk, V.okb, A.okb, all_fv hcs'] <;> decide
          · have hc' := of_decide_eq_false hc
            refine needm_of (decide_eq_true (by rw [s5, fv_len hcs, List.length_append, ← hlm]; exact ⟨by omega, by show (_ : Nat) * 1 ≤ _; omega, by omega⟩)) ?_
            intro cap' hcap'
            conv => whnf
            repeat' (first
              | ((with_reducible refine regx_of ?_ ?_); (· decide +kernel); conv => whnf)
              | ((with_reducible refine growx_pre ?_ ?_); (· exact ⟨_, rfl⟩); conv => whnf)
              | ((with_reducible refine needm_of ?_ ?_); (· first | assumption | exact decide_eq_true (by omega) | exact mkOK_of (by decide) | decide +kernel | (refine decide_eq_true ?_; simp (disch := omega) only [i64w]; omega)); conv => whnf)
              | ((with_reducible refine condm_pos ?_ ?_); (· assumption); conv => whnf)
              | ((with_reducible refine condm_neg ?_ ?_); (· assumption); conv => whnf)
              | ((with_reducible refine forceL_fv (by assumption) ?_); conv => whnf)
              | ((with_reducible refine forceL_rfv (by assumption) ?_); conv => whnf)
              | ((with_reducible refine forceNm_of ?_); conv => whnf)
              | ((with_reducible refine needm_of (fv_lenL (by assumption) (by assumption)) ?_); conv => whnf)
              | ((with_reducible refine optm_var (fv_strL (by assumption) (by assumption)) (fun s hs => ?_)); conv => whnf)
              | ((with_reducible refine forceA_of ?_); conv => whnf)
              | ((with_reducible refine forceL_fw (by assumption) ?_); conv => whnf)
              | ((with_reducible refine forceL_rfw (by assumption) ?_); conv => whnf)
              | ((with_reducible refine forceL_fl (by assumption) ?_); conv => whnf)
              | ((with_reducible refine forceL_rfl (by assumption) ?_); conv => whnf)
              | fail)
            refine forceL_var (app_new (b := b) hcs hlm s5 rfl e5) (fun cs' hcs' => ?_)
            rw [List.append_assoc L, hms] at hcs'
            conv => whnf
            repeat' (first
              | ((with_reducible refine regx_of ?_ ?_); (· decide +kernel); conv => whnf)
              | ((with_reducible refine growx_pre ?_ ?_); (· exact ⟨_, rfl⟩); conv => whnf)
              | ((with_reducible refine needm_of ?_ ?_); (· first | assumption | exact decide_eq_true (by omega) | exact mkOK_of (by decide) | decide +kernel | (refine decide_eq_true ?_; simp (disch := omega) only [i64w]; omega)); conv => whnf)
              | ((with_reducible refine condm_pos ?_ ?_); (· assumption); conv => whnf)
              | ((with_reducible refine condm_neg ?_ ?_); (· assumption); conv => whnf)
              | ((with_reducible refine forceL_fv (by assumption) ?_); conv => whnf)
              | ((with_reducible refine forceL_rfv (by assumption) ?_); conv => whnf)
              | ((with_reducible refine forceNm_of ?_); conv => whnf)
              | ((with_reducible refine needm_of (fv_lenL (by assumption) (by assumption)) ?_); conv => whnf)
              | ((with_reducible refine optm_var (fv_strL (by assumption) (by assumption)) (fun s hs => ?_)); conv => whnf)
              | ((with_reducible refine forceA_of ?_); conv => whnf)
              | ((with_reducible refine forceL_fw (by assumption) ?_); conv => whnf)
              | ((with_reducible refine forceL_rfw (by assumption) ?_); conv => whnf)
              | ((with_reducible refine forceL_fl (by assumption) ?_); conv => whnf)
              | ((with_reducible refine forceL_rfl (by assumption) ?_); conv => whnf)
              | fail)
            refine ⟨66 - (j + 1), by omega, Into.weak [2] _ _ ⟨j + 1, List.replicate (cap' - (len + 1)) 0, cs', _, _, by omega, rfl, hcs', ?_, ?_, rfl, rfl⟩ ⟨rfl, rfl, congrArg (fun z => some (V.a (.int .i64 z))) e4, trivial⟩ ⟨ren_fv hcs' _ _ _, trivial⟩ ?_⟩
            · omega
            · rw [List.length_replicate]; omega
            · simp [nodupb, baseb, Ob.okb, frmOk, V.okb, A.okb, all_fv hcs'] <;> decide
        · have h66 : j = 66 := by have := of_decide_eq_false h; omega
          subst h66
          conv => whnf
          repeat' (first
            | ((with_reducible refine regx_of ?_ ?_); (· decide +kernel); conv => whnf)
            | ((with_reducible refine growx_pre ?_ ?_); (· exact ⟨_, rfl⟩); conv => whnf)
            | ((with_reducible refine needm_of ?_ ?_); (· first | assumption | exact decide_eq_true (by omega) | exact mkOK_of (by decide) | decide +kernel | (refine decide_eq_true ?_; simp (disch := omega) only [i64w]; omega)); conv => whnf)
            | ((with_reducible refine condm_pos ?_ ?_); (· assumption); conv => whnf)
            | ((with_reducible refine condm_neg ?_ ?_); (· assumption); conv => whnf)
            | ((with_reducible refine forceL_fv (by assumption) ?_); conv => whnf)
            | ((with_reducible refine forceL_rfv (by assumption) ?_); conv => whnf)
            | ((with_reducible refine forceNm_of ?_); conv => whnf)
            | ((with_reducible refine needm_of (fv_lenL (by assumption) (by assumption)) ?_); conv => whnf)
            | ((with_reducible refine optm_var (fv_strL (by assumption) (by assumption)) (fun s hs => ?_)); conv => whnf)
            | ((with_reducible refine forceA_of ?_); conv => whnf)
            | ((with_reducible refine forceL_fw (by assumption) ?_); conv => whnf)
            | ((with_reducible refine forceL_rfw (by assumption) ?_); conv => whnf)
            | ((with_reducible refine forceL_fl (by assumption) ?_); conv => whnf)
            | ((with_reducible refine forceL_rfl (by assumption) ?_); conv => whnf)
            | fail)
          have e1 : (if cap = 0 then 0 else 0 + 0 * Try.prog.types[5].size) = 0 := by split <;> simp
          rw [e1]
          exact keepOf (v₀ := .a (.slc 0 0 L.length cap)) [.cells cs 5 false] [0] (by simp [V.ren, A.ren, dsOf]) ⟨ren_fv hcs _ _ _, trivial⟩ (by simp [nodupb, baseb, Ob.okb, frmOk, V.okb, A.okb, all_fv hcs] <;> decide) (hK y cs cap hcs (by rw [hcap, hlen]))
    · have hc' := of_decide_eq_false hc
      refine needm_of (decide_eq_true (by rw [s5]; exact ⟨by simp, by show (_ : Nat) * 1 ≤ _; omega, by omega⟩)) ?_
      intro cap' hcap'
      conv => whnf
      repeat' (first
        | ((with_reducible refine regx_of ?_ ?_); (· decide +kernel); conv => whnf)
        | ((with_reducible refine growx_pre ?_ ?_); (· exact ⟨_, rfl⟩); conv => whnf)
        | ((with_reducible refine needm_of ?_ ?_); (· first | assumption | exact decide_eq_true (by omega) | exact mkOK_of (by decide) | decide +kernel | (refine decide_eq_true ?_; simp (disch := omega) only [i64w]; omega)); conv => whnf)
        | ((with_reducible refine condm_pos ?_ ?_); (· assumption); conv => whnf)
        | ((with_reducible refine condm_neg ?_ ?_); (· assumption); conv => whnf)
        | ((with_reducible refine forceL_fv (by assumption) ?_); conv => whnf)
        | ((with_reducible refine forceL_rfv (by assumption) ?_); conv => whnf)
        | ((with_reducible refine forceNm_of ?_); conv => whnf)
        | ((with_reducible refine needm_of (fv_lenL (by assumption) (by assumption)) ?_); conv => whnf)
        | ((with_reducible refine optm_var (fv_strL (by assumption) (by assumption)) (fun s hs => ?_)); conv => whnf)
        | ((with_reducible refine forceA_of ?_); conv => whnf)
        | ((with_reducible refine forceL_fw (by assumption) ?_); conv => whnf)
        | ((with_reducible refine forceL_rfw (by assumption) ?_); conv => whnf)
        | ((with_reducible refine forceL_fl (by assumption) ?_); conv => whnf)
        | ((with_reducible refine forceL_rfl (by assumption) ?_); conv => whnf)
        | fail)
      refine forceL_var (l' := u8s (L ++ List.replicate (cap' - L.length) 0)) (by rw [s5]; simp [repl_u8]) (fun cs hcs => ?_)
      conv => whnf
      repeat' (first
        | ((with_reducible refine regx_of ?_ ?_); (· decide +kernel); conv => whnf)
        | ((with_reducible refine growx_pre ?_ ?_); (· exact ⟨_, rfl⟩); conv => whnf)
        | ((with_reducible refine needm_of ?_ ?_); (· first | assumption | exact decide_eq_true (by omega) | exact mkOK_of (by decide) | decide +kernel | (refine decide_eq_true ?_; simp (disch := omega) only [i64w]; omega)); conv => whnf)
        | ((with_reducible refine condm_pos ?_ ?_); (· assumption); conv => whnf)
        | ((with_reducible refine condm_neg ?_ ?_); (· assumption); conv => whnf)
        | ((with_reducible refine forceL_fv (by assumption) ?_); conv => whnf)
        | ((with_reducible refine forceL_rfv (by assumption) ?_); conv => whnf)
        | ((with_reducible refine forceNm_of ?_); conv => whnf)
        | ((with_reducible refine needm_of (fv_lenL (by assumption) (by assumption)) ?_); conv => whnf)
        | ((with_reducible refine optm_var (fv_strL (by assumption) (by assumption)) (fun s hs => ?_)); conv => whnf)
        | ((with_reducible refine forceA_of ?_); conv => whnf)
        | ((with_reducible refine forceL_fw (by assumption) ?_); conv => whnf)
        | ((with_reducible refine forceL_rfw (by assumption) ?_); conv => whnf)
        | ((with_reducible refine forceL_fl (by assumption) ?_); conv => whnf)
        | ((with_reducible refine forceL_rfl (by assumption) ?_); conv => whnf)
        | fail)
      refine loopx_of (fun m F H => ∃ (j : Nat) (y : List UInt8) (cs : List A) (len cap : Nat), j ≤ 66 ∧ m = 66 - j ∧ cs = u8s (L ++ marks j ++ y) ∧ len = L.length + j ∧ cap = len + y.length ∧ F = [(0, .a (.rslc p L.length cap₀)), (3, .a (.slc 0 0 len cap)), (4, .a (.int .i64 j))] ∧ H = [.cells cs 5 false]) 66 ?_ ?_
      · refine Into.weak [1] _ _ ⟨0, List.replicate (cap' - L.length) 0, cs, 0 + L.length, cap', by omega, rfl, by rw [marks_0, List.append_nil]; exact hcs, by omega, by rw [List.length_replicate]; omega, rfl, rfl⟩ ⟨rfl, rfl, rfl, trivial⟩ ⟨ren_fv hcs _ _ _, trivial⟩ ?_
        simp [nodupb, baseb, Ob.okb, frmOk, V.okb, A.okb, all_fv hcs] <;> decide
      · rintro m F H ⟨j, y, cs, len, cap, hj, rfl, hcs, hlen, hcap, rfl, rfl⟩
        have hlm : len = (L ++ marks j).length := by rw [List.length_append, marks_length, hlen]
        conv => whnf
        refine condm_of (fun h => ?_) (fun h => ?_)
        · have hj66 : j < 66 := by have := of_decide_eq_true h; omega
          have e4 : IntKind.i64.wrap (↑j + 1) = ((j + 1 : Nat) : Int) := by rw [i64w (by omega) (by omega)]; rfl
          have e5 : IntKind.u8.wrap (IntKind.i64.wrap (150 + ↑j)) = ((UInt8.ofNat (150 + j)).toNat : Int) := by
            rw [i64w (by omega) (by omega), wrap8, show (150 + (j : Int)) = ((150 + j : Nat) : Int) by omega, b8_ofNat]
          have hms := marks_succ j
          generalize UInt8.ofNat (150 + j) = b at *
          conv => whnf
          generalize IntKind.u8.wrap (IntKind.i64.wrap (150 + ↑j)) = v at *
          repeat' (first
            | ((with_reducible refine regx_of ?_ ?_); (· decide +kernel); conv => whnf)
            | ((with_reducible refine growx_pre ?_ ?_); (· exact ⟨_, rfl⟩); conv => whnf)
            | ((with_reducible refine needm_of ?_ ?_); (· first | assumption | exact decide_eq_true (by omega) | exact mkOK_of (by decide) | decide +kernel | (refine decide_eq_true ?_; simp (disch := omega) only [i64w]; omega)); conv => whnf)
            | ((with_reducible refine condm_pos ?_ ?_); (· assumption); conv => whnf)
            | ((with_reducible refine condm_neg ?_ ?_); (· assumption); conv => whnf)
            | ((with_reducible refine forceL_fv (by assumption) ?_); conv => whnf)
            | ((with_reducible refine forceL_rfv (by assumption) ?_); conv => whnf)
            | ((with_reducible refine forceNm_of ?_); conv => whnf)
            | ((with_reducible refine needm_of (fv_lenL (by assumption) (by assumption)) ?_); conv => whnf)
            | ((with_reducible refine optm_var (fv_strL (by assumption) (by assumption)) (fun s hs => ?_)); conv => whnf)
            | ((with_reducible refine forceA_of ?_); conv => whnf)
            | ((with_reducible refine forceL_fw (by assumption) ?_); conv => whnf)
            | ((with_reducible refine forceL_rfw (by assumption) ?_); conv => whnf)
            | ((with_reducible refine forceL_fl (by assumption) ?_); conv => whnf)
            | ((with_reducible refine forceL_rfl (by assumption) ?_); conv => whnf)
            | fail)
          refine condm_of (fun hc => ?_) (fun hc => ?_)
          · have hc' := of_decide_eq_true hc
            refine needm_of (decide_eq_true (by rw [s5, fv_len hcs, List.length_append, ← hlm]; simp only [List.length_drop, List.length_take, List.length_cons, List.length_nil]; omega)) ?_
            conv => whnf
            repeat' (first
              | ((with_reducible refine regx_of ?_ ?_); (· decide +kernel); conv => whnf)
              | ((with_reducible refine growx_pre ?_ ?_); (· exact ⟨_, rfl⟩); conv => whnf)
              | ((with_reducible refine needm_of ?_ ?_); (· first | assumption | exact decide_eq_true (by omega) | exact mkOK_of (by decide) | decide +kernel | (refine decide_eq_true ?_; simp (disch := omega) only [i64w]; omega)); conv => whnf)
              | ((with_reducible refine condm_pos ?_ ?_); (· assumption); conv => whnf)
              | ((with_reducible refine condm_neg ?_ ?_); (· assumption); conv => whnf)
              | ((with_reducible refine forceL_fv (by assumption) ?_); conv => whnf)
              | ((with_reducible refine forceL_rfv (by assumption) ?_); conv => whnf)
              | ((with_reducible refine forceNm_of ?_); conv => whnf)
              | ((with_reducible refine needm_of (fv_lenL (by assumption) (by assumption)) ?_); conv => whnf)
              | ((with_reducible refine optm_var (fv_strL (by assumption) (by assumption)) (fun s hs => ?_)); conv => whnf)
              | ((with_reducible refine forceA_of ?_); conv => whnf)
              | ((with_reducible refine forceL_fw (by assumption) ?_); conv => whnf)
              | ((with_reducible refine forceL_rfw (by assumption) ?_); conv => whnf)
              | ((with_reducible refine forceL_fl (by assumption) ?_); conv => whnf)
              | ((with_reducible refine forceL_rfl (by assumption) ?_); conv => whnf)
              | fail)
            refine forceL_var (app_in (b := b) hcs hlm s5 (by rw [List.length_append, ← hlm]; omega) e5) (fun cs' hcs' => ?_)
            rw [List.append_assoc L, hms] at hcs'
            conv => whnf
            repeat' (first
              | ((with_reducible refine regx_of ?_ ?_); (· decide +kernel); conv => whnf)
              | ((with_reducible refine growx_pre ?_ ?_); (· exact ⟨_, rfl⟩); conv => whnf)
              | ((with_reducible refine needm_of ?_ ?_); (· first | assumption | exact decide_eq_true (by omega) | exact mkOK_of (by decide) | decide +kernel | (refine decide_eq_true ?_; simp (disch := omega) only [i64w]; omega)); conv => whnf)
              | ((with_reducible refine condm_pos ?_ ?_); (· assumption); conv => whnf)
              | ((with_reducible refine condm_neg ?_ ?_); (· assumption); conv => whnf)
              | ((with_reducible refine forceL_fv (by assumption) ?_); conv => whnf)
              | ((with_reducible refine forceL_rfv (by assumption) ?_); conv => whnf)
              | ((with_reducible refine forceNm_of ?_); conv => whnf)
              | ((with_reducible refine needm_of (fv_lenL (by assumption) (by assumption)) ?_); conv => whnf)
              | ((with_reducible refine optm_var (fv_strL (by assumption) (by assumption)) (fun s hs => ?_)); conv => whnf)
              | ((with_reducible refine forceA_of ?_); conv => whnf)
              | ((with_reducible refine forceL_fw (by assumption) ?_); conv => whnf)
              | ((with_reducible refine forceL_rfw (by assumption) ?_); conv => whnf)
              | ((with_reducible refine forceL_fl (by assumption) ?_); conv => whnf)
              | ((with_reducible refine forceL_rfl (by assumption) ?_); conv => whnf)
              | fail)
            refine ⟨66 - (j + 1), by omega, Into.weak [0] _ _ ⟨j + 1, y.tail, cs', _, _, by omega, rfl, hcs', ?_, ?_, rfl, rfl⟩ ⟨rfl, rfl, congrArg (fun z => some (V.a (.int .i64 z))) e4, trivial⟩ ⟨ren_fv hcs' _ _ _, trivial⟩ ?_⟩
            · omega
            · rw [List.length_tail]; omega
            · simp [nodupb, baseb, Ob.okb, frmOk, V.okb, A.okb, all_fv hcs'] <;> decide
          · have hc' := of_decide_eq_false hc
            refine needm_of (decide_eq_true (by rw [s5, fv_len hcs, List.length_append, ← hlm]; exact ⟨by omega, by show (_ : Nat) * 1 ≤ _; omega, by omega⟩)) ?_
            intro cap' hcap'
            conv => whnf
            repeat' (first
              | ((with_reducible refine regx_of ?_ ?_); (· decide +kernel); conv => whnf)
              | ((with_reducible refine growx_pre ?_ ?_); (· exact ⟨_, rfl⟩); conv => whnf)
              | ((with_reducible refine needm_of ?_ ?_); (· first | assumption | exact decide_eq_true (by omega) | exact mkOK_of (by decide) | decide +kernel | (refine decide_eq_true ?_; simp (disch := omega) only [i64w]; omega)); conv => whnf)
              | ((with_reducible refine condm_pos ?_ ?_); (· assumption); conv => whnf)
              | ((with_reducible refine condm_neg ?_ ?_); (· assumption); conv => whnf)
              | ((with_reducible refine forceL_fv (by assumption) ?_); conv => whnf)
              | ((with_reducible refine forceL_rfv (by assumption) ?_); conv => whnf)
              | ((with_reducible refine forceNm_of ?_); conv => whnf)
              | ((with_reducible refine needm_of (fv_lenL (by assumption) (by assumption)) ?_); conv => whnf)
              | ((with_reducible refine optm_var (fv_strL (by assumption) (by assumption)) (fun s hs => ?_)); conv => whnf)
              | ((with_reducible refine forceA_of ?_); conv => whnf)
              | ((with_reducible refine forceL_fw (by assumption) ?_); conv => whnf)
              | ((with_reducible refine forceL_rfw (by assumption) ?_); conv => whnf)
              | ((with_reducible refine forceL_fl (by assumption) ?_); conv => whnf)
              | ((with_reducible refine forceL_rfl (by assumption) ?_); conv => whnf)
              | fail)
            refine forceL_var (app_new (b := b) hcs hlm s5 rfl e5) (fun cs' hcs' => ?_)
            rw [List.append_assoc L, hms] at hcs'
            conv => whnf
            repeat' (first
              | ((with_reducible refine regx_of ?_ ?_); (· decide +kernel); conv => whnf)
              | ((with_reducible refine growx_pre ?_ ?_); (· exact ⟨_, rfl⟩); conv => whnf)
              | ((with_reducible refine needm_of ?_ ?_); (· first | assumption | exact decide_eq_true (by omega) | exact mkOK_of (by decide) | decide +kernel | (refine decide_eq_true ?_; simp (disch := omega) only [i64w]; omega)); conv => whnf)
              | ((with_reducible refine condm_pos ?_ ?_); (· assumption); conv => whnf)
              | ((with_reducible refine condm_neg ?_ ?_); (· assumption); conv => whnf)
              | ((with_reducible refine forceL_fv (by assumption) ?_); conv => whnf)
              | ((with_reducible refine forceL_rfv (by assumption) ?_); conv => whnf)
              | ((with_reducible refine forceNm_of ?_); conv => whnf)
              | ((with_reducible refine needm_of (fv_lenL (by assumption) (by assumption)) ?_); conv => whnf)
              | ((with_reducible refine optm_var (fv_strL (by assumption) (by assumption)) (fun s hs => ?_)); conv => whnf)
              | ((with_reducible refine forceA_of ?_); conv => whnf)
              | ((with_reducible refine forceL_fw (by assumption) ?_); conv => whnf)
              | ((with_reducible refine forceL_rfw (by assumption) ?_); conv => whnf)
              | ((with_reducible refine forceL_fl (by assumption) ?_); conv => whnf)
              | ((with_reducible refine forceL_rfl (by assumption) ?_); conv => whnf)
              | fail)
            refine ⟨66 - (j + 1), by omega, Into.weak [2] _ _ ⟨j + 1, List.replicate (cap' - (len + 1)) 0, cs', _, _, by omega, rfl, hcs', ?_, ?_, rfl, rfl⟩ ⟨rfl, rfl, congrArg (fun z => some (V.a (.int .i64 z))) e4, trivial⟩ ⟨ren_fv hcs' _ _ _, trivial⟩ ?_⟩
            · omega
            · rw [List.length_replicate]; omega
            · simp [nodupb, baseb, Ob.okb, frmOk, V.okb, A.okb, all_fv hcs'] <;> decide
        · have h66 : j = 66 := by have := of_decide_eq_false h; omega
          subst h66
          conv => whnf
          repeat' (first
            | ((with_reducible refine regx_of ?_ ?_); (· decide +kernel); conv => whnf)
            | ((with_reducible refine growx_pre ?_ ?_); (· exact ⟨_, rfl⟩); conv => whnf)
            | ((with_reducible refine needm_of ?_ ?_); (· first | assumption | exact decide_eq_true (by omega) | exact mkOK_of (by decide) | decide +kernel | (refine decide_eq_true ?_; simp (disch := omega) only [i64w]; omega)); conv => whnf)
            | ((with_reducible refine condm_pos ?_ ?_); (· assumption); conv => whnf)
            | ((with_reducible refine condm_neg ?_ ?_); (· assumption); conv => whnf)
            | ((with_reducible refine forceL_fv (by assumption) ?_); conv => whnf)
            | ((with_reducible refine forceL_rfv (by assumption) ?_); conv => whnf)
            | ((with_reducible refine forceNm_of ?_); conv => whnf)
            | ((with_reducible refine needm_of (fv_lenL (by assumption) (by assumption)) ?_); conv => whnf)
            | ((with_reducible refine optm_var (fv_strL (by assumption) (by assumption)) (fun s hs => ?_)); conv => whnf)
            | ((with_reducible refine forceA_of ?_); conv => whnf)
            | ((with_reducible refine forceL_fw (by assumption) ?_); conv => whnf)
            | ((with_reducible refine forceL_rfw (by assumption) ?_); conv => whnf)
            | ((with_reducible refine forceL_fl (by assumption) ?_); conv => whnf)
            | ((with_reducible refine forceL_rfl (by assumption) ?_); conv => whnf)
            | fail)
          have e1 : (if cap = 0 then 0 else 0 + 0 * Try.prog.types[5].size) = 0 := by split <;> simp
          rw [e1]
          exact keepOf (v₀ := .a (.slc 0 0 L.length cap)) [.cells cs 5 false] [0] (by simp [V.ren, A.ren, dsOf]) ⟨ren_fv hcs _ _ _, trivial⟩ (by simp [nodupb, baseb, Ob.okb, frmOk, V.okb, A.okb, all_fv hcs] <;> decide) (hK y cs cap hcs (by rw [hcap, hlen]))
end
end Go.Proofs.Ytglbldhineggaaa.DG
