import Derived.Test.YtmnimmhpclhmfaaPM
namespace Go.Proofs.Ytmnimmhpclhmfaa.PC
open Go.Eng
set_option maxRecDepth 100000
def KU : List Sc := [.int .u64]
theorem MR.start : MR p0 9218868437227405312 18442240474082181120 := .new rfl (by decide) (by decide)
theorem same_self (a : Nat) : same a a = true := by
  unfold same; simp
section
set_option maxHeartbeats 2000000 in
theorem means (W : World) (p : Addr) (len cap : Nat) (G : Nat → List A) (hG : IsSl W 1 KU (.rslc p len cap) len cap G) (hlen : len ≤ 9223372036854775807) :
    Go.Eng.Fn Try.prog (roOf W) 5 [.a (.rslc p len cap)] [] (fun v _ => v = .a (.bool true)) := by
  refine Go.Eng.Fn.of_code (gOf []) Try.func5 rfl (Nat.le_of_ble_eq_true rfl) ?_
  conv => whnf
  repeat' (first
    | ((with_reducible refine regx_of ?_ ?_); (· decide +kernel); conv => whnf)
    | ((with_reducible refine growx_pre ?_ ?_); (· exact ⟨_, rfl⟩); conv => whnf)
    | ((with_reducible refine needm_of ?_ ?_); (· first | assumption | exact decide_eq_true (by omega) | exact mkOK_of (by decide) | decide +kernel | (refine decide_eq_true ?_; simp (disch := omega) only [i64w]; omega)); conv => whnf)
    | ((with_reducible refine condm_pos ?_ ?_); (· assumption); conv => whnf)
    | ((with_reducible refine condm_neg ?_ ?_); (· assumption); conv => whnf)
    | ((with_reducible refine forceL_fv (by assumption) ?_); conv => whnf)
    | ((with_reducible refine forceL_rfv (by assumption) ?_); conv => whnf)
    | ((with_reducible refine forceNm_of ?_); conv => whnf)
    | ((with_reducible refine needm_of (fv_lenL (by assumption) (by assumption)) ?_); conv => whnf)
    | ((with_reducible refine optm_var (fv_strL (by assumption) (by assumption)) (fun s hs => ?_)); conv => whnf)
    | ((with_reducible refine forceA_of ?_); conv => whnf)
    | ((with_reducible refine forceL_pl (by assumption) ?_); conv => whnf)
    | ((with_reducible refine forceL_rpl (by assumption) ?_); conv => whnf)
    | ((refine ext_from (by rfl) from_n from_f ?_); conv => whnf)
    | fail)
  refine Go.Eng.Fn.frame [] (by rfl) (by exact trivial) (by rfl) (works18 ?_)
  conv => whnf
  repeat' (first
    | ((with_reducible refine regx_of ?_ ?_); (· decide +kernel); conv => whnf)
    | ((with_reducible refine growx_pre ?_ ?_); (· exact ⟨_, rfl⟩); conv => whnf)
    | ((with_reducible refine needm_of ?_ ?_); (· first | assumption | exact decide_eq_true (by omega) | exact mkOK_of (by decide) | decide +kernel | (refine decide_eq_true ?_; simp (disch := omega) only [i64w]; omega)); conv => whnf)
    | ((with_reducible refine condm_pos ?_ ?_); (· assumption); conv => whnf)
    | ((with_reducible refine condm_neg ?_ ?_); (· assumption); conv => whnf)
    | ((with_reducible refine forceL_fv (by assumption) ?_); conv => whnf)
    | ((with_reducible refine forceL_rfv (by assumption) ?_); conv => whnf)
    | ((with_reducible refine forceNm_of ?_); conv => whnf)
    | ((with_reducible refine needm_of (fv_lenL (by assumption) (by assumption)) ?_); conv => whnf)
    | ((with_reducible refine optm_var (fv_strL (by assumption) (by assumption)) (fun s hs => ?_)); conv => whnf)
    | ((with_reducible refine forceA_of ?_); conv => whnf)
    | ((with_reducible refine forceL_pl (by assumption) ?_); conv => whnf)
    | ((with_reducible refine forceL_rpl (by assumption) ?_); conv => whnf)
    | ((refine ext_from (by rfl) from_n from_f ?_); conv => whnf)
    | fail)
  refine Go.Eng.Fn.frame [] (by rfl) (by exact trivial) (by rfl) (new19 1 (by decide) (by decide) (fun cs hcs => ?_))
  replace hcs : cs = prow [p0] := hcs
  have hp := Pl.prow hcs
  conv => whnf
  repeat' (first
    | ((with_reducible refine regx_of ?_ ?_); (· decide +kernel); conv => whnf)
    | ((with_reducible refine growx_pre ?_ ?_); (· exact ⟨_, rfl⟩); conv => whnf)
    | ((with_reducible refine needm_of ?_ ?_); (· first | assumption | exact decide_eq_true (by omega) | exact mkOK_of (by decide) | decide +kernel | (refine decide_eq_true ?_; simp (disch := omega) only [i64w]; omega)); conv => whnf)
    | ((with_reducible refine condm_pos ?_ ?_); (· assumption); conv => whnf)
    | ((with_reducible refine condm_neg ?_ ?_); (· assumption); conv => whnf)
    | ((with_reducible refine forceL_fv (by assumption) ?_); conv => whnf)
    | ((with_reducible refine forceL_rfv (by assumption) ?_); conv => whnf)
    | ((with_reducible refine forceNm_of ?_); conv => whnf)
    | ((with_reducible refine needm_of (fv_lenL (by assumption) (by assumption)) ?_); conv => whnf)
    | ((with_reducible refine optm_var (fv_strL (by assumption) (by assumption)) (fun s hs => ?_)); conv => whnf)
    | ((with_reducible refine forceA_of ?_); conv => whnf)
    | ((with_reducible refine forceL_pl (by assumption) ?_); conv => whnf)
    | ((with_reducible refine forceL_rpl (by assumption) ?_); conv => whnf)
    | ((refine ext_from (by rfl) from_n from_f ?_); conv => whnf)
    | fail)
  refine Go.Eng.Fn.frame [] (by rfl) (by exact trivial) (by rfl) (inf20 ?_)
  conv => whnf
  repeat' (first
    | ((with_reducible refine regx_of ?_ ?_); (· decide +kernel); conv => whnf)
    | ((with_reducible refine growx_pre ?_ ?_); (· exact ⟨_, rfl⟩); conv => whnf)
    | ((with_reducible refine needm_of ?_ ?_); (· first | assumption | exact decide_eq_true (by omega) | exact mkOK_of (by decide) | decide +kernel | (refine decide_eq_true ?_; simp (disch := omega) only [i64w]; omega)); conv => whnf)
    | ((with_reducible refine condm_pos ?_ ?_); (· assumption); conv => whnf)
    | ((with_reducible refine condm_neg ?_ ?_); (· assumption); conv => whnf)
    | ((with_reducible refine forceL_fv (by assumption) ?_); conv => whnf)
    | ((with_reducible refine forceL_rfv (by assumption) ?_); conv => whnf)
    | ((with_reducible refine forceNm_of ?_); conv => whnf)
    | ((with_reducible refine needm_of (fv_lenL (by assumption) (by assumption)) ?_); conv => whnf)
    | ((with_reducible refine optm_var (fv_strL (by assumption) (by assumption)) (fun s hs => ?_)); conv => whnf)
    | ((with_reducible refine forceA_of ?_); conv => whnf)
    | ((with_reducible refine forceL_pl (by assumption) ?_); conv => whnf)
    | ((with_reducible refine forceL_rpl (by assumption) ?_); conv => whnf)
    | ((refine ext_from (by rfl) from_n from_f ?_); conv => whnf)
    | fail)
  refine Go.Eng.Fn.frame [] (by rfl) (by exact trivial) (by rfl) (inf20m ?_)
  conv => whnf
  repeat' (first
    | ((with_reducible refine regx_of ?_ ?_); (· decide +kernel); conv => whnf)
    | ((with_reducible refine growx_pre ?_ ?_); (· exact ⟨_, rfl⟩); conv => whnf)
    | ((with_reducible refine needm_of ?_ ?_); (· first | assumption | exact decide_eq_true (by omega) | exact mkOK_of (by decide) | decide +kernel | (refine decide_eq_true ?_; simp (disch := omega) only [i64w]; omega)); conv => whnf)
    | ((with_reducible refine condm_pos ?_ ?_); (· assumption); conv => whnf)
    | ((with_reducible refine condm_neg ?_ ?_); (· assumption); conv => whnf)
    | ((with_reducible refine forceL_fv (by assumption) ?_); conv => whnf)
    | ((with_reducible refine forceL_rfv (by assumption) ?_); conv => whnf)
    | ((with_reducible refine forceNm_of ?_); conv => whnf)
    | ((with_reducible refine needm_of (fv_lenL (by assumption) (by assumption)) ?_); conv => whnf)
    | ((with_reducible refine optm_var (fv_strL (by assumption) (by assumption)) (fun s hs => ?_)); conv => whnf)
    | ((with_reducible refine forceA_of ?_); conv => whnf)
    | ((with_reducible refine forceL_pl (by assumption) ?_); conv => whnf)
    | ((with_reducible refine forceL_rpl (by assumption) ?_); conv => whnf)
    | ((refine ext_from (by rfl) from_n from_f ?_); conv => whnf)
    | fail)
  refine loopx_of (fun m F H => ∃ (i : Nat) (x : Pt) (lo hi : Nat) (cs : List A), i ≤ len ∧ m = len - i ∧ cs = prow [x] ∧ MR x lo hi ∧ F = [(0, .a (.rslc p len cap)), (3, .a (.ptr 1 0)), (5, .a (.flt .f64 lo)), (6, .a (.flt .f64 hi)), (7, .a (.int .i64 i))] ∧ H = [.cells cs 73 false, .cells [.slc 0 0 1 1] 68 false]) len ?_ ?_
  · exact Into.weak [0, 1] [(0, .a (.rslc p len cap)), (3, .a (.ptr 1 0)), (5, .a (.flt .f64 9218868437227405312)), (6, .a (.flt .f64 18442240474082181120)), (7, .a (.int .i64 (0 : Nat)))] [.cells cs 73 false, .cells [.slc 0 0 1 1] 68 false] ⟨0, _, _, _, cs, by omega, rfl, hcs, MR.start, rfl, rfl⟩ ⟨rfl, rfl, rfl, rfl, rfl, trivial⟩ ⟨ren_pl hp _ _ _, rfl, trivial⟩ (by simp [nodupb, baseb, Ob.okb, frmOk, V.okb, A.okb, hp.2] <;> decide)
  · clear hcs hp cs
    rintro m F H ⟨i, x, lo, hi, cs, hi1, rfl, hcs, hM, rfl, rfl⟩
    have hp := Pl.prow hcs
    conv => whnf
    repeat' (first
      | ((with_reducible refine regx_of ?_ ?_); (· decide +kernel); conv => whnf)
      | ((with_reducible refine growx_pre ?_ ?_); (· exact ⟨_, rfl⟩); conv => whnf)
      | ((with_reducible refine needm_of ?_ ?_); (· first | assumption | exact decide_eq_true (by omega) | exact mkOK_of (by decide) | decide +kernel | (refine decide_eq_true ?_; simp (disch := omega) only [i64w]; omega)); conv => whnf)
      | ((with_reducible refine condm_pos ?_ ?_); (· assumption); conv => whnf)
      | ((with_reducible refine condm_neg ?_ ?_); (· assumption); conv => whnf)
      | ((with_reducible refine forceL_fv (by assumption) ?_); conv => whnf)
      | ((with_reducible refine forceL_rfv (by assumption) ?_); conv => whnf)
      | ((with_reducible refine forceNm_of ?_); conv => whnf)
      | ((with_reducible refine needm_of (fv_lenL (by assumption) (by assumption)) ?_); conv => whnf)
      | ((with_reducible refine optm_var (fv_strL (by assumption) (by assumption)) (fun s hs => ?_)); conv => whnf)
      | ((with_reducible refine forceA_of ?_); conv => whnf)
      | ((with_reducible refine forceL_pl (by assumption) ?_); conv => whnf)
      | ((with_reducible refine forceL_rpl (by assumption) ?_); conv => whnf)
      | ((refine ext_from (by rfl) from_n from_f ?_); conv => whnf)
      | fail)
    refine condm_of (fun h => ?_) (fun h => ?_)
    · have hil : i < len := by have := of_decide_eq_true h; omega
      have hw : IntKind.i64.wrap (↑i + 1) = ((i + 1 : Nat) : Int) := by rw [i64w (by omega) (by omega)]; rfl
      obtain ⟨hf, hro⟩ := hG.get hil
      unfold KU at hf
      obtain ⟨X, r0, e0, b0, f0⟩ := Fits.int hf
      obtain rfl := Fits.nil f0
      rw [e0] at hro
      have hX0 : (0 : Int) ≤ X := b0.1
      have hX1 : X ≤ 18446744073709551615 := b0.2
      have ld : roOf W (p.add (i * 1)) (.int .u64 X) := hro 0 _ rfl
      clear hro e0 f0 hf b0
      conv => whnf
      repeat' (first
        | ((with_reducible refine regx_of ?_ ?_); (· decide +kernel); conv => whnf)
        | ((with_reducible refine growx_pre ?_ ?_); (· exact ⟨_, rfl⟩); conv => whnf)
        | ((with_reducible refine needm_of ?_ ?_); (· first | assumption | exact decide_eq_true (by omega) | exact mkOK_of (by decide) | decide +kernel | (refine decide_eq_true ?_; simp (disch := omega) only [i64w]; omega)); conv => whnf)
        | ((with_reducible refine condm_pos ?_ ?_); (· assumption); conv => whnf)
        | ((with_reducible refine condm_neg ?_ ?_); (· assumption); conv => whnf)
        | ((with_reducible refine forceL_fv (by assumption) ?_); conv => whnf)
        | ((with_reducible refine forceL_rfv (by assumption) ?_); conv => whnf)
        | ((with_reducible refine forceNm_of ?_); conv => whnf)
        | ((with_reducible refine needm_of (fv_lenL (by assumption) (by assumption)) ?_); conv => whnf)
        | ((with_reducible refine optm_var (fv_strL (by assumption) (by assumption)) (fun s hs => ?_)); conv => whnf)
        | ((with_reducible refine forceA_of ?_); conv => whnf)
        | ((with_reducible refine forceL_pl (by assumption) ?_); conv => whnf)
        | ((with_reducible refine forceL_rpl (by assumption) ?_); conv => whnf)
        | ((refine ext_from (by rfl) from_n from_f ?_); conv => whnf)
        | fail)
      refine ⟨_, ld, ?_⟩
      conv => whnf
      repeat' (first
        | ((with_reducible refine regx_of ?_ ?_); (· decide +kernel); conv => whnf)
        | ((with_reducible refine growx_pre ?_ ?_); (· exact ⟨_, rfl⟩); conv => whnf)
        | ((with_reducible refine needm_of ?_ ?_); (· first | assumption | exact decide_eq_true (by omega) | exact mkOK_of (by decide) | decide +kernel | (refine decide_eq_true ?_; simp (disch := omega) only [i64w]; omega)); conv => whnf)
        | ((with_reducible refine condm_pos ?_ ?_); (· assumption); conv => whnf)
        | ((with_reducible refine condm_neg ?_ ?_); (· assumption); conv => whnf)
        | ((with_reducible refine forceL_fv (by assumption) ?_); conv => whnf)
        | ((with_reducible refine forceL_rfv (by assumption) ?_); conv => whnf)
        | ((with_reducible refine forceNm_of ?_); conv => whnf)
        | ((with_reducible refine needm_of (fv_lenL (by assumption) (by assumption)) ?_); conv => whnf)
        | ((with_reducible refine optm_var (fv_strL (by assumption) (by assumption)) (fun s hs => ?_)); conv => whnf)
        | ((with_reducible refine forceA_of ?_); conv => whnf)
        | ((with_reducible refine forceL_pl (by assumption) ?_); conv => whnf)
        | ((with_reducible refine forceL_rpl (by assumption) ?_); conv => whnf)
        | ((refine ext_from (by rfl) from_n from_f ?_); conv => whnf)
        | fail)
      have hXn : X.toNat < 18446744073709551616 := by omega
      generalize X.toNat = t at *
      refine Go.Eng.Fn.frame [0, 1] (by rfl) (by exact ⟨ren_pl hp _ _ _, rfl, trivial⟩) (by simp [nodupb, V.okb, A.okb, Ob.okb, hp.2] <;> decide) (trip21 [x] cs 1 false hcs rfl (by decide) 1 (fun h => absurd ⟨by decide, by decide⟩ h) (fun k x' hx e => ?_))
      obtain rfl : k = 0 := by omega
      obtain rfl : x = x' := by simpa using hx
      clear hx e
      conv => whnf
      repeat' (first
        | ((with_reducible refine regx_of ?_ ?_); (· decide +kernel); conv => whnf)
        | ((with_reducible refine growx_pre ?_ ?_); (· exact ⟨_, rfl⟩); conv => whnf)
        | ((with_reducible refine needm_of ?_ ?_); (· first | assumption | exact decide_eq_true (by omega) | exact mkOK_of (by decide) | decide +kernel | (refine decide_eq_true ?_; simp (disch := omega) only [i64w]; omega)); conv => whnf)
        | ((with_reducible refine condm_pos ?_ ?_); (· assumption); conv => whnf)
        | ((with_reducible refine condm_neg ?_ ?_); (· assumption); conv => whnf)
        | ((with_reducible refine forceL_fv (by assumption) ?_); conv => whnf)
        | ((with_reducible refine forceL_rfv (by assumption) ?_); conv => whnf)
        | ((with_reducible refine forceNm_of ?_); conv => whnf)
        | ((with_reducible refine needm_of (fv_lenL (by assumption) (by assumption)) ?_); conv => whnf)
        | ((with_reducible refine optm_var (fv_strL (by assumption) (by assumption)) (fun s hs => ?_)); conv => whnf)
        | ((with_reducible refine forceA_of ?_); conv => whnf)
        | ((with_reducible refine forceL_pl (by assumption) ?_); conv => whnf)
        | ((with_reducible refine forceL_rpl (by assumption) ?_); conv => whnf)
        | ((refine ext_from (by rfl) from_n from_f ?_); conv => whnf)
        | fail)
      refine Go.Eng.Fn.frame [0, 1] (by rfl) (by exact ⟨ren_pl hp _ _ _, rfl, trivial⟩) (by simp [nodupb, V.okb, A.okb, Ob.okb, hp.2] <;> decide) (heard22 [x] cs 1 false hcs rfl (by decide) 1 t hXn (fun h => absurd ⟨by decide, by decide⟩ h) (fun k x' hx e hf => ?_) (fun k x' hx e hf y hy cs2 hcs2 => ?_))
      · obtain rfl : k = 0 := by omega
        obtain rfl : x = x' := by simpa using hx
        clear hx e
        have ht := took_eq t
        replace hf : took t = false := hf
        rw [hf] at ht
        conv => whnf
        repeat' (first
          | ((with_reducible refine regx_of ?_ ?_); (· decide +kernel); conv => whnf)
          | ((with_reducible refine growx_pre ?_ ?_); (· exact ⟨_, rfl⟩); conv => whnf)
          | ((with_reducible refine needm_of ?_ ?_); (· first | assumption | exact decide_eq_true (by omega) | exact mkOK_of (by decide) | decide +kernel | (refine decide_eq_true ?_; simp (disch := omega) only [i64w]; omega)); conv => whnf)
          | ((with_reducible refine condm_pos ?_ ?_); (· assumption); conv => whnf)
          | ((with_reducible refine condm_neg ?_ ?_); (· assumption); conv => whnf)
          | ((with_reducible refine forceL_fv (by assumption) ?_); conv => whnf)
          | ((with_reducible refine forceL_rfv (by assumption) ?_); conv => whnf)
          | ((with_reducible refine forceNm_of ?_); conv => whnf)
          | ((with_reducible refine needm_of (fv_lenL (by assumption) (by assumption)) ?_); conv => whnf)
          | ((with_reducible refine optm_var (fv_strL (by assumption) (by assumption)) (fun s hs => ?_)); conv => whnf)
          | ((with_reducible refine forceA_of ?_); conv => whnf)
          | ((with_reducible refine forceL_pl (by assumption) ?_); conv => whnf)
          | ((with_reducible refine forceL_rpl (by assumption) ?_); conv => whnf)
          | ((refine ext_from (by rfl) from_n from_f ?_); conv => whnf)
          | fail)
        refine Go.Eng.Fn.frame [0, 1] (by rfl) (by exact ⟨ren_pl hp _ _ _, rfl, trivial⟩) (by simp [nodupb, V.okb, A.okb, Ob.okb, hp.2] <;> decide) (trip21 [x] cs 1 false hcs rfl (by decide) 1 (fun h => absurd ⟨by decide, by decide⟩ h) (fun k x' hx e => ?_))
        obtain rfl : k = 0 := by omega
        obtain rfl : x = x' := by simpa using hx
        clear hx e
        cases hu : (fGtK .f64 t 0 || fEqK .f64 t 0) with
        | false =>
          conv => whnf
          repeat' (first
            | ((with_reducible refine regx_of ?_ ?_); (· decide +kernel); conv => whnf)
            | ((with_reducible refine growx_pre ?_ ?_); (· exact ⟨_, rfl⟩); conv => whnf)
            | ((with_reducible refine needm_of ?_ ?_); (· first | assumption | exact decide_eq_true (by omega) | exact mkOK_of (by decide) | decide +kernel | (refine decide_eq_true ?_; simp (disch := omega) only [i64w]; omega)); conv => whnf)
            | ((with_reducible refine condm_pos ?_ ?_); (· assumption); conv => whnf)
            | ((with_reducible refine condm_neg ?_ ?_); (· assumption); conv => whnf)
            | ((with_reducible refine forceL_fv (by assumption) ?_); conv => whnf)
            | ((with_reducible refine forceL_rfv (by assumption) ?_); conv => whnf)
            | ((with_reducible refine forceNm_of ?_); conv => whnf)
            | ((with_reducible refine needm_of (fv_lenL (by assumption) (by assumption)) ?_); conv => whnf)
            | ((with_reducible refine optm_var (fv_strL (by assumption) (by assumption)) (fun s hs => ?_)); conv => whnf)
            | ((with_reducible refine forceA_of ?_); conv => whnf)
            | ((with_reducible refine forceL_pl (by assumption) ?_); conv => whnf)
            | ((with_reducible refine forceL_rpl (by assumption) ?_); conv => whnf)
            | ((refine ext_from (by rfl) from_n from_f ?_); conv => whnf)
            | fail)
          refine Go.Eng.Fn.frame [] (by rfl) (by exact trivial) (by rfl) (same15 x.mean x.mean ?_)
          rw [same_self]
          conv => whnf
          repeat' (first
            | ((with_reducible refine regx_of ?_ ?_); (· decide +kernel); conv => whnf)
            | ((with_reducible refine growx_pre ?_ ?_); (· exact ⟨_, rfl⟩); conv => whnf)
            | ((with_reducible refine needm_of ?_ ?_); (· first | assumption | exact decide_eq_true (by omega) | exact mkOK_of (by decide) | decide +kernel | (refine decide_eq_true ?_; simp (disch := omega) only [i64w]; omega)); conv => whnf)
            | ((with_reducible refine condm_pos ?_ ?_); (· assumption); conv => whnf)
            | ((with_reducible refine condm_neg ?_ ?_); (· assumption); conv => whnf)
            | ((with_reducible refine forceL_fv (by assumption) ?_); conv => whnf)
            | ((with_reducible refine forceL_rfv (by assumption) ?_); conv => whnf)
            | ((with_reducible refine forceNm_of ?_); conv => whnf)
            | ((with_reducible refine needm_of (fv_lenL (by assumption) (by assumption)) ?_); conv => whnf)
            | ((with_reducible refine optm_var (fv_strL (by assumption) (by assumption)) (fun s hs => ?_)); conv => whnf)
            | ((with_reducible refine forceA_of ?_); conv => whnf)
            | ((with_reducible refine forceL_pl (by assumption) ?_); conv => whnf)
            | ((with_reducible refine forceL_rpl (by assumption) ?_); conv => whnf)
            | ((refine ext_from (by rfl) from_n from_f ?_); conv => whnf)
            | fail)
          refine Go.Eng.Fn.frame [] (by rfl) (by exact trivial) (by rfl) (same15 x.stray x.stray ?_)
          rw [same_self]
          conv => whnf
          repeat' (first
            | ((with_reducible refine regx_of ?_ ?_); (· decide +kernel); conv => whnf)
            | ((with_reducible refine growx_pre ?_ ?_); (· exact ⟨_, rfl⟩); conv => whnf)
            | ((with_reducible refine needm_of ?_ ?_); (· first | assumption | exact decide_eq_true (by omega) | exact mkOK_of (by decide) | decide +kernel | (refine decide_eq_true ?_; simp (disch := omega) only [i64w]; omega)); conv => whnf)
            | ((with_reducible refine condm_pos ?_ ?_); (· assumption); conv => whnf)
            | ((with_reducible refine condm_neg ?_ ?_); (· assumption); conv => whnf)
            | ((with_reducible refine forceL_fv (by assumption) ?_); conv => whnf)
            | ((with_reducible refine forceL_rfv (by assumption) ?_); conv => whnf)
            | ((with_reducible refine forceNm_of ?_); conv => whnf)
            | ((with_reducible refine needm_of (fv_lenL (by assumption) (by assumption)) ?_); conv => whnf)
            | ((with_reducible refine optm_var (fv_strL (by assumption) (by assumption)) (fun s hs => ?_)); conv => whnf)
            | ((with_reducible refine forceA_of ?_); conv => whnf)
            | ((with_reducible refine forceL_pl (by assumption) ?_); conv => whnf)
            | ((with_reducible refine forceL_rpl (by assumption) ?_); conv => whnf)
            | ((refine ext_from (by rfl) from_n from_f ?_); conv => whnf)
            | fail)
          exact ⟨len - (i + 1), by omega, Into.weak [0, 1] [(0, .a (.rslc p len cap)), (3, .a (.ptr 1 0)), (5, .a (.flt .f64 lo)), (6, .a (.flt .f64 hi)), (7, .a (.int .i64 ((i + 1 : Nat) : Int)))] [.cells cs 73 false, .cells [.slc 0 0 1 1] 68 false] ⟨i + 1, x, lo, hi, cs, by omega, rfl, hcs, hM, rfl, rfl⟩ ⟨rfl, rfl, rfl, rfl, congrArg (fun z => some (V.a (.int .i64 z))) hw, trivial⟩ ⟨ren_pl hp _ _ _, rfl, trivial⟩ (by simp [nodupb, baseb, Ob.okb, frmOk, V.okb, A.okb, hp.2] <;> decide)⟩
        | true =>
          rw [hu] at ht
          replace ht : (fLtK .f64 t 9218868437227405311 || fEqK .f64 t 9218868437227405311) = false := ht
          conv => whnf
          repeat' (first
            | ((with_reducible refine regx_of ?_ ?_); (· decide +kernel); conv => whnf)
            | ((with_reducible refine growx_pre ?_ ?_); (· exact ⟨_, rfl⟩); conv => whnf)
            | ((with_reducible refine needm_of ?_ ?_); (· first | assumption | exact decide_eq_true (by omega) | exact mkOK_of (by decide) | decide +kernel | (refine decide_eq_true ?_; simp (disch := omega) only [i64w]; omega)); conv => whnf)
            | ((with_reducible refine condm_pos ?_ ?_); (· assumption); conv => whnf)
            | ((with_reducible refine condm_neg ?_ ?_); (· assumption); conv => whnf)
            | ((with_reducible refine forceL_fv (by assumption) ?_); conv => whnf)
            | ((with_reducible refine forceL_rfv (by assumption) ?_); conv => whnf)
            | ((with_reducible refine forceNm_of ?_); conv => whnf)
            | ((with_reducible refine needm_of (fv_lenL (by assumption) (by assumption)) ?_); conv => whnf)
            | ((with_reducible refine optm_var (fv_strL (by assumption) (by assumption)) (fun s hs => ?_)); conv => whnf)
            | ((with_reducible refine forceA_of ?_); conv => whnf)
            | ((with_reducible refine forceL_pl (by assumption) ?_); conv => whnf)
            | ((with_reducible refine forceL_rpl (by assumption) ?_); conv => whnf)
            | ((refine ext_from (by rfl) from_n from_f ?_); conv => whnf)
            | fail)
          rw [ht]
          conv => whnf
          repeat' (first
            | ((with_reducible refine regx_of ?_ ?_); (· decide +kernel); conv => whnf)
            | ((with_reducible refine growx_pre ?_ ?_); (· exact ⟨_, rfl⟩); conv => whnf)
            | ((with_reducible refine needm_of ?_ ?_); (· first | assumption | exact decide_eq_true (by omega) | exact mkOK_of (by decide) | decide +kernel | (refine decide_eq_true ?_; simp (disch := omega) only [i64w]; omega)); conv => whnf)
            | ((with_reducible refine condm_pos ?_ ?_); (· assumption); conv => whnf)
            | ((with_reducible refine condm_neg ?_ ?_); (· assumption); conv => whnf)
            | ((with_reducible refine forceL_fv (by assumption) ?_); conv => whnf)
            | ((with_reducible refine forceL_rfv (by assumption) ?_); conv => whnf)
            | ((with_reducible refine forceNm_of ?_); conv => whnf)
            | ((with_reducible refine needm_of (fv_lenL (by assumption) (by assumption)) ?_); conv => whnf)
            | ((with_reducible refine optm_var (fv_strL (by assumption) (by assumption)) (fun s hs => ?_)); conv => whnf)
            | ((with_reducible refine forceA_of ?_); conv => whnf)
            | ((with_reducible refine forceL_pl (by assumption) ?_); conv => whnf)
            | ((with_reducible refine forceL_rpl (by assumption) ?_); conv => whnf)
            | ((refine ext_from (by rfl) from_n from_f ?_); conv => whnf)
            | fail)
          refine Go.Eng.Fn.frame [] (by rfl) (by exact trivial) (by rfl) (same15 x.mean x.mean ?_)
          rw [same_self]
          conv => whnf
          repeat' (first
            | ((with_reducible refine regx_of ?_ ?_); (· decide +kernel); conv => whnf)
            | ((with_reducible refine growx_pre ?_ ?_); (· exact ⟨_, rfl⟩); conv => whnf)
            | ((with_reducible refine needm_of ?_ ?_); (· first | assumption | exact decide_eq_true (by omega) | exact mkOK_of (by decide) | decide +kernel | (refine decide_eq_true ?_; simp (disch := omega) only [i64w]; omega)); conv => whnf)
            | ((with_reducible refine condm_pos ?_ ?_); (· assumption); conv => whnf)
            | ((with_reducible refine condm_neg ?_ ?_); (· assumption); conv => whnf)
            | ((with_reducible refine forceL_fv (by assumption) ?_); conv => whnf)
            | ((with_reducible refine forceL_rfv (by assumption) ?_); conv => whnf)
            | ((with_reducible refine forceNm_of ?_); conv => whnf)
            | ((with_reducible refine needm_of (fv_lenL (by assumption) (by assumption)) ?_); conv => whnf)
            | ((with_reducible refine optm_var (fv_strL (by assumption) (by assumption)) (fun s hs => ?_)); conv => whnf)
            | ((with_reducible refine forceA_of ?_); conv => whnf)
            | ((with_reducible refine forceL_pl (by assumption) ?_); conv => whnf)
            | ((with_reducible refine forceL_rpl (by assumption) ?_); conv => whnf)
            | ((refine ext_from (by rfl) from_n from_f ?_); conv => whnf)
            | fail)
          refine Go.Eng.Fn.frame [] (by rfl) (by exact trivial) (by rfl) (same15 x.stray x.stray ?_)
          rw [same_self]
          conv => whnf
          repeat' (first
            | ((with_reducible refine regx_of ?_ ?_); (· decide +kernel); conv => whnf)
            | ((with_reducible refine growx_pre ?_ ?_); (· exact ⟨_, rfl⟩); conv => whnf)
            | ((with_reducible refine needm_of ?_ ?_); (· first | assumption | exact decide_eq_true (by omega) | exact mkOK_of (by decide) | decide +kernel | (refine decide_eq_true ?_; simp (disch := omega) only [i64w]; omega)); conv => whnf)
            | ((with_reducible refine condm_pos ?_ ?_); (· assumption); conv => whnf)
            | ((with_reducible refine condm_neg ?_ ?_); (· assumption); conv => whnf)
            | ((with_reducible refine forceL_fv (by assumption) ?_); conv => whnf)
            | ((with_reducible refine forceL_rfv (by assumption) ?_); conv => whnf)
            | ((with_reducible refine forceNm_of ?_); conv => whnf)
            | ((with_reducible refine needm_of (fv_lenL (by assumption) (by assumption)) ?_); conv => whnf)
            | ((with_reducible refine optm_var (fv_strL (by assumption) (by assumption)) (fun s hs => ?_)); conv => whnf)
            | ((with_reducible refine forceA_of ?_); conv => whnf)
            | ((with_reducible refine forceL_pl (by assumption) ?_); conv => whnf)
            | ((with_reducible refine forceL_rpl (by assumption) ?_); conv => whnf)
            | ((refine ext_from (by rfl) from_n from_f ?_); conv => whnf)
            | fail)
          exact ⟨len - (i + 1), by omega, Into.weak [0, 1] [(0, .a (.rslc p len cap)), (3, .a (.ptr 1 0)), (5, .a (.flt .f64 lo)), (6, .a (.flt .f64 hi)), (7, .a (.int .i64 ((i + 1 : Nat) : Int)))] [.cells cs 73 false, .cells [.slc 0 0 1 1] 68 false] ⟨i + 1, x, lo, hi, cs, by omega, rfl, hcs, hM, rfl, rfl⟩ ⟨rfl, rfl, rfl, rfl, congrArg (fun z => some (V.a (.int .i64 z))) hw, trivial⟩ ⟨ren_pl hp _ _ _, rfl, trivial⟩ (by simp [nodupb, baseb, Ob.okb, frmOk, V.okb, A.okb, hp.2] <;> decide)⟩
      · obtain rfl : k = 0 := by omega
        obtain rfl : x = x' := by simpa using hx
        clear hx e
        replace hcs2 : cs2 = prow [y] := hcs2
        have hp2 := Pl.prow hcs2
        have ht := took_eq t
        replace hf : took t = true := hf
        rw [hf] at ht
        obtain ⟨t1, t2⟩ := Bool.and_eq_true_iff.1 ht
        conv => whnf
        repeat' (first
          | ((with_reducible refine regx_of ?_ ?_); (· decide +kernel); conv => whnf)
          | ((with_reducible refine growx_pre ?_ ?_); (· exact ⟨_, rfl⟩); conv => whnf)
          | ((with_reducible refine needm_of ?_ ?_); (· first | assumption | exact decide_eq_true (by omega) | exact mkOK_of (by decide) | decide +kernel | (refine decide_eq_true ?_; simp (disch := omega) only [i64w]; omega)); conv => whnf)
          | ((with_reducible refine condm_pos ?_ ?_); (· assumption); conv => whnf)
          | ((with_reducible refine condm_neg ?_ ?_); (· assumption); conv => whnf)
          | ((with_reducible refine forceL_fv (by assumption) ?_); conv => whnf)
          | ((with_reducible refine forceL_rfv (by assumption) ?_); conv => whnf)
          | ((with_reducible refine forceNm_of ?_); conv => whnf)
          | ((with_reducible refine needm_of (fv_lenL (by assumption) (by assumption)) ?_); conv => whnf)
          | ((with_reducible refine optm_var (fv_strL (by assumption) (by assumption)) (fun s hs => ?_)); conv => whnf)
          | ((with_reducible refine forceA_of ?_); conv => whnf)
          | ((with_reducible refine forceL_pl (by assumption) ?_); conv => whnf)
          | ((with_reducible refine forceL_rpl (by assumption) ?_); conv => whnf)
          | ((refine ext_from (by rfl) from_n from_f ?_); conv => whnf)
          | fail)
        refine Go.Eng.Fn.frame [0, 1] (by rfl) (by exact ⟨ren_pl hp2 _ _ _, rfl, trivial⟩) (by simp [nodupb, V.okb, A.okb, Ob.okb, hp2.2] <;> decide) (trip21 [y] cs2 1 false hcs2 rfl (by decide) 1 (fun h => absurd ⟨by decide, by decide⟩ h) (fun k y' hx e => ?_))
        obtain rfl : k = 0 := by omega
        obtain rfl : y = y' := by simpa using hx
        clear hx e
        conv => whnf
        repeat' (first
          | ((with_reducible refine regx_of ?_ ?_); (· decide +kernel); conv => whnf)
          | ((with_reducible refine growx_pre ?_ ?_); (· exact ⟨_, rfl⟩); conv => whnf)
          | ((with_reducible refine needm_of ?_ ?_); (· first | assumption | exact decide_eq_true (by omega) | exact mkOK_of (by decide) | decide +kernel | (refine decide_eq_true ?_; simp (disch := omega) only [i64w]; omega)); conv => whnf)
          | ((with_reducible refine condm_pos ?_ ?_); (· assumption); conv => whnf)
          | ((with_reducible refine condm_neg ?_ ?_); (· assumption); conv => whnf)
          | ((with_reducible refine forceL_fv (by assumption) ?_); conv => whnf)
          | ((with_reducible refine forceL_rfv (by assumption) ?_); conv => whnf)
          | ((with_reducible refine forceNm_of ?_); conv => whnf)
          | ((with_reducible refine needm_of (fv_lenL (by assumption) (by assumption)) ?_); conv => whnf)
          | ((with_reducible refine optm_var (fv_strL (by assumption) (by assumption)) (fun s hs => ?_)); conv => whnf)
          | ((with_reducible refine forceA_of ?_); conv => whnf)
          | ((with_reducible refine forceL_pl (by assumption) ?_); conv => whnf)
          | ((with_reducible refine forceL_rpl (by assumption) ?_); conv => whnf)
          | ((refine ext_from (by rfl) from_n from_f ?_); conv => whnf)
          | fail)
        rw [t2]
        conv => whnf
        repeat' (first
          | ((with_reducible refine regx_of ?_ ?_); (· decide +kernel); conv => whnf)
          | ((with_reducible refine growx_pre ?_ ?_); (· exact ⟨_, rfl⟩); conv => whnf)
          | ((with_reducible refine needm_of ?_ ?_); (· first | assumption | exact decide_eq_true (by omega) | exact mkOK_of (by decide) | decide +kernel | (refine decide_eq_true ?_; simp (disch := omega) only [i64w]; omega)); conv => whnf)
          | ((with_reducible refine condm_pos ?_ ?_); (· assumption); conv => whnf)
          | ((with_reducible refine condm_neg ?_ ?_); (· assumption); conv => whnf)
          | ((with_reducible refine forceL_fv (by assumption) ?_); conv => whnf)
          | ((with_reducible refine forceL_rfv (by assumption) ?_); conv => whnf)
          | ((with_reducible refine forceNm_of ?_); conv => whnf)
          | ((with_reducible refine needm_of (fv_lenL (by assumption) (by assumption)) ?_); conv => whnf)
          | ((with_reducible refine optm_var (fv_strL (by assumption) (by assumption)) (fun s hs => ?_)); conv => whnf)
          | ((with_reducible refine forceA_of ?_); conv => whnf)
          | ((with_reducible refine forceL_pl (by assumption) ?_); conv => whnf)
          | ((with_reducible refine forceL_rpl (by assumption) ?_); conv => whnf)
          | ((refine ext_from (by rfl) from_n from_f ?_); conv => whnf)
          | fail)
        obtain ⟨a, hat⟩ := took_at hf
        obtain ⟨l, u, kl, ku⟩ := hM.keys
        refine fmmx_of kl hat.1 (fun lo' hlo => ?_)
        conv => whnf
        repeat' (first
          | ((with_reducible refine regx_of ?_ ?_); (· decide +kernel); conv => whnf)
          | ((with_reducible refine growx_pre ?_ ?_); (· exact ⟨_, rfl⟩); conv => whnf)
          | ((with_reducible refine needm_of ?_ ?_); (· first | assumption | exact decide_eq_true (by omega) | exact mkOK_of (by decide) | decide +kernel | (refine decide_eq_true ?_; simp (disch := omega) only [i64w]; omega)); conv => whnf)
          | ((with_reducible refine condm_pos ?_ ?_); (· assumption); conv => whnf)
          | ((with_reducible refine condm_neg ?_ ?_); (· assumption); conv => whnf)
          | ((with_reducible refine forceL_fv (by assumption) ?_); conv => whnf)
          | ((with_reducible refine forceL_rfv (by assumption) ?_); conv => whnf)
          | ((with_reducible refine forceNm_of ?_); conv => whnf)
          | ((with_reducible refine needm_of (fv_lenL (by assumption) (by assumption)) ?_); conv => whnf)
          | ((with_reducible refine optm_var (fv_strL (by assumption) (by assumption)) (fun s hs => ?_)); conv => whnf)
          | ((with_reducible refine forceA_of ?_); conv => whnf)
          | ((with_reducible refine forceL_pl (by assumption) ?_); conv => whnf)
          | ((with_reducible refine forceL_rpl (by assumption) ?_); conv => whnf)
          | ((refine ext_from (by rfl) from_n from_f ?_); conv => whnf)
          | fail)
        refine fmmx_of ku hat.1 (fun hi' hhi => ?_)
        obtain ⟨hM2, ⟨q1, q2, q3, q4⟩⟩ := asked hM hat hy kl ku hlo hhi
        conv => whnf
        repeat' (first
          | ((with_reducible refine regx_of ?_ ?_); (· decide +kernel); conv => whnf)
          | ((with_reducible refine growx_pre ?_ ?_); (· exact ⟨_, rfl⟩); conv => whnf)
          | ((with_reducible refine needm_of ?_ ?_); (· first | assumption | exact decide_eq_true (by omega) | exact mkOK_of (by decide) | decide +kernel | (refine decide_eq_true ?_; simp (disch := omega) only [i64w]; omega)); conv => whnf)
          | ((with_reducible refine condm_pos ?_ ?_); (· assumption); conv => whnf)
          | ((with_reducible refine condm_neg ?_ ?_); (· assumption); conv => whnf)
          | ((with_reducible refine forceL_fv (by assumption) ?_); conv => whnf)
          | ((with_reducible refine forceL_rfv (by assumption) ?_); conv => whnf)
          | ((with_reducible refine forceNm_of ?_); conv => whnf)
          | ((with_reducible refine needm_of (fv_lenL (by assumption) (by assumption)) ?_); conv => whnf)
          | ((with_reducible refine optm_var (fv_strL (by assumption) (by assumption)) (fun s hs => ?_)); conv => whnf)
          | ((with_reducible refine forceA_of ?_); conv => whnf)
          | ((with_reducible refine forceL_pl (by assumption) ?_); conv => whnf)
          | ((with_reducible refine forceL_rpl (by assumption) ?_); conv => whnf)
          | ((refine ext_from (by rfl) from_n from_f ?_); conv => whnf)
          | fail)
        rw [q3]
        conv => whnf
        repeat' (first
          | ((with_reducible refine regx_of ?_ ?_); (· decide +kernel); conv => whnf)
          | ((with_reducible refine growx_pre ?_ ?_); (· exact ⟨_, rfl⟩); conv => whnf)
          | ((with_reducible refine needm_of ?_ ?_); (· first | assumption | exact decide_eq_true (by omega) | exact mkOK_of (by decide) | decide +kernel | (refine decide_eq_true ?_; simp (disch := omega) only [i64w]; omega)); conv => whnf)
          | ((with_reducible refine condm_pos ?_ ?_); (· assumption); conv => whnf)
          | ((with_reducible refine condm_neg ?_ ?_); (· assumption); conv => whnf)
          | ((with_reducible refine forceL_fv (by assumption) ?_); conv => whnf)
          | ((with_reducible refine forceL_rfv (by assumption) ?_); conv => whnf)
          | ((with_reducible refine forceNm_of ?_); conv => whnf)
          | ((with_reducible refine needm_of (fv_lenL (by assumption) (by assumption)) ?_); conv => whnf)
          | ((with_reducible refine optm_var (fv_strL (by assumption) (by assumption)) (fun s hs => ?_)); conv => whnf)
          | ((with_reducible refine forceA_of ?_); conv => whnf)
          | ((with_reducible refine forceL_pl (by assumption) ?_); conv => whnf)
          | ((with_reducible refine forceL_rpl (by assumption) ?_); conv => whnf)
          | ((refine ext_from (by rfl) from_n from_f ?_); conv => whnf)
          | fail)
        rcases q4 with q4 | ⟨q4, q5⟩
        ·
          conv => whnf
          repeat' (first
            | ((with_reducible refine regx_of ?_ ?_); (· decide +kernel); conv => whnf)
            | ((with_reducible refine growx_pre ?_ ?_); (· exact ⟨_, rfl⟩); conv => whnf)
            | ((with_reducible refine needm_of ?_ ?_); (· first | assumption | exact decide_eq_true (by omega) | exact mkOK_of (by decide) | decide +kernel | (refine decide_eq_true ?_; simp (disch := omega) only [i64w]; omega)); conv => whnf)
            | ((with_reducible refine condm_pos ?_ ?_); (· assumption); conv => whnf)
            | ((with_reducible refine condm_neg ?_ ?_); (· assumption); conv => whnf)
            | ((with_reducible refine forceL_fv (by assumption) ?_); conv => whnf)
            | ((with_reducible refine forceL_rfv (by assumption) ?_); conv => whnf)
            | ((with_reducible refine forceNm_of ?_); conv => whnf)
            | ((with_reducible refine needm_of (fv_lenL (by assumption) (by assumption)) ?_); conv => whnf)
            | ((with_reducible refine optm_var (fv_strL (by assumption) (by assumption)) (fun s hs => ?_)); conv => whnf)
            | ((with_reducible refine forceA_of ?_); conv => whnf)
            | ((with_reducible refine forceL_pl (by assumption) ?_); conv => whnf)
            | ((with_reducible refine forceL_rpl (by assumption) ?_); conv => whnf)
            | ((refine ext_from (by rfl) from_n from_f ?_); conv => whnf)
            | fail)
          exact ⟨len - (i + 1), by omega, Into.weak [0, 1] [(0, .a (.rslc p len cap)), (3, .a (.ptr 1 0)), (5, .a (.flt .f64 lo')), (6, .a (.flt .f64 hi')), (7, .a (.int .i64 ((i + 1 : Nat) : Int)))] [.cells cs2 73 false, .cells [.slc 0 0 1 1] 68 false] ⟨i + 1, y, lo', hi', cs2, by omega, rfl, hcs2, hM2, rfl, rfl⟩ ⟨rfl, rfl, rfl, rfl, congrArg (fun z => some (V.a (.int .i64 z))) hw, trivial⟩ ⟨ren_pl hp2 _ _ _, rfl, trivial⟩ (by simp [nodupb, baseb, Ob.okb, frmOk, V.okb, A.okb, hp2.2] <;> decide)⟩
        ·
          conv => whnf
          repeat' (first
            | ((with_reducible refine regx_of ?_ ?_); (· decide +kernel); conv => whnf)
            | ((with_reducible refine growx_pre ?_ ?_); (· exact ⟨_, rfl⟩); conv => whnf)
            | ((with_reducible refine needm_of ?_ ?_); (· first | assumption | exact decide_eq_true (by omega) | exact mkOK_of (by decide) | decide +kernel | (refine decide_eq_true ?_; simp (disch := omega) only [i64w]; omega)); conv => whnf)
            | ((with_reducible refine condm_pos ?_ ?_); (· assumption); conv => whnf)
            | ((with_reducible refine condm_neg ?_ ?_); (· assumption); conv => whnf)
            | ((with_reducible refine forceL_fv (by assumption) ?_); conv => whnf)
            | ((with_reducible refine forceL_rfv (by assumption) ?_); conv => whnf)
            | ((with_reducible refine forceNm_of ?_); conv => whnf)
            | ((with_reducible refine needm_of (fv_lenL (by assumption) (by assumption)) ?_); conv => whnf)
            | ((with_reducible refine optm_var (fv_strL (by assumption) (by assumption)) (fun s hs => ?_)); conv => whnf)
            | ((with_reducible refine forceA_of ?_); conv => whnf)
            | ((with_reducible refine forceL_pl (by assumption) ?_); conv => whnf)
            | ((with_reducible refine forceL_rpl (by assumption) ?_); conv => whnf)
            | ((refine ext_from (by rfl) from_n from_f ?_); conv => whnf)
            | fail)
          rw [q5]
          conv => whnf
          repeat' (first
            | ((with_reducible refine regx_of ?_ ?_); (· decide +kernel); conv => whnf)
            | ((with_reducible refine growx_pre ?_ ?_); (· exact ⟨_, rfl⟩); conv => whnf)
            | ((with_reducible refine needm_of ?_ ?_); (· first | assumption | exact decide_eq_true (by omega) | exact mkOK_of (by decide) | decide +kernel | (refine decide_eq_true ?_; simp (disch := omega) only [i64w]; omega)); conv => whnf)
            | ((with_reducible refine condm_pos ?_ ?_); (· assumption); conv => whnf)
            | ((with_reducible refine condm_neg ?_ ?_); (· assumption); conv => whnf)
            | ((with_reducible refine forceL_fv (by assumption) ?_); conv => whnf)
            | ((with_reducible refine forceL_rfv (by assumption) ?_); conv => whnf)
            | ((with_reducible refine forceNm_of ?_); conv => whnf)
            | ((with_reducible refine needm_of (fv_lenL (by assumption) (by assumption)) ?_); conv => whnf)
            | ((with_reducible refine optm_var (fv_strL (by assumption) (by assumption)) (fun s hs => ?_)); conv => whnf)
            | ((with_reducible refine forceA_of ?_); conv => whnf)
            | ((with_reducible refine forceL_pl (by assumption) ?_); conv => whnf)
            | ((with_reducible refine forceL_rpl (by assumption) ?_); conv => whnf)
            | ((refine ext_from (by rfl) from_n from_f ?_); conv => whnf)
            | fail)
          exact ⟨len - (i + 1), by omega, Into.weak [0, 1] [(0, .a (.rslc p len cap)), (3, .a (.ptr 1 0)), (5, .a (.flt .f64 lo')), (6, .a (.flt .f64 hi')), (7, .a (.int .i64 ((i + 1 : Nat) : Int)))] [.cells cs2 73 false, .cells [.slc 0 0 1 1] 68 false] ⟨i + 1, y, lo', hi', cs2, by omega, rfl, hcs2, hM2, rfl, rfl⟩ ⟨rfl, rfl, rfl, rfl, congrArg (fun z => some (V.a (.int .i64 z))) hw, trivial⟩ ⟨ren_pl hp2 _ _ _, rfl, trivial⟩ (by simp [nodupb, baseb, Ob.okb, frmOk, V.okb, A.okb, hp2.2] <;> decide)⟩
    ·
      conv => whnf
      repeat' (first
        | ((with_reducible refine regx_of ?_ ?_); (· decide +kernel); conv => whnf)
        | ((with_reducible refine growx_pre ?_ ?_); (· exact ⟨_, rfl⟩); conv => whnf)
        | ((with_reducible refine needm_of ?_ ?_); (· first | assumption | exact decide_eq_true (by omega) | exact mkOK_of (by decide) | decide +kernel | (refine decide_eq_true ?_; simp (disch := omega) only [i64w]; omega)); conv => whnf)
        | ((with_reducible refine condm_pos ?_ ?_); (· assumption); conv => whnf)
        | ((with_reducible refine condm_neg ?_ ?_); (· assumption); conv => whnf)
        | ((with_reducible refine forceL_fv (by assumption) ?_); conv => whnf)
        | ((with_reducible refine forceL_rfv (by assumption) ?_); conv => whnf)
        | ((with_reducible refine forceNm_of ?_); conv => whnf)
        | ((with_reducible refine needm_of (fv_lenL (by assumption) (by assumption)) ?_); conv => whnf)
        | ((with_reducible refine optm_var (fv_strL (by assumption) (by assumption)) (fun s hs => ?_)); conv => whnf)
        | ((with_reducible refine forceA_of ?_); conv => whnf)
        | ((with_reducible refine forceL_pl (by assumption) ?_); conv => whnf)
        | ((with_reducible refine forceL_rpl (by assumption) ?_); conv => whnf)
        | ((refine ext_from (by rfl) from_n from_f ?_); conv => whnf)
        | fail)
set_option maxHeartbeats 2000000 in
theorem means_nil (W : World) : Go.Eng.Fn Try.prog (roOf W) 5 [.a .nils] [] (fun v _ => v = .a (.bool true)) := by
  refine Go.Eng.Fn.of_code (gOf []) Try.func5 rfl (Nat.le_of_ble_eq_true rfl) ?_
  conv => whnf
  repeat' (first
    | ((with_reducible refine regx_of ?_ ?_); (· decide +kernel); conv => whnf)
    | ((with_reducible refine growx_pre ?_ ?_); (· exact ⟨_, rfl⟩); conv => whnf)
    | ((with_reducible refine needm_of ?_ ?_); (· first | assumption | exact decide_eq_true (by omega) | exact mkOK_of (by decide) | decide +kernel | (refine decide_eq_true ?_; simp (disch := omega) only [i64w]; omega)); conv => whnf)
    | ((with_reducible refine condm_pos ?_ ?_); (· assumption); conv => whnf)
    | ((with_reducible refine condm_neg ?_ ?_); (· assumption); conv => whnf)
    | ((with_reducible refine forceL_fv (by assumption) ?_); conv => whnf)
    | ((with_reducible refine forceL_rfv (by assumption) ?_); conv => whnf)
    | ((with_reducible refine forceNm_of ?_); conv => whnf)
    | ((with_reducible refine needm_of (fv_lenL (by assumption) (by assumption)) ?_); conv => whnf)
    | ((with_reducible refine optm_var (fv_strL (by assumption) (by assumption)) (fun s hs => ?_)); conv => whnf)
    | ((with_reducible refine forceA_of ?_); conv => whnf)
    | ((with_reducible refine forceL_pl (by assumption) ?_); conv => whnf)
    | ((with_reducible refine forceL_rpl (by assumption) ?_); conv => whnf)
    | ((refine ext_from (by rfl) from_n from_f ?_); conv => whnf)
    | fail)
  refine Go.Eng.Fn.frame [] (by rfl) (by exact trivial) (by rfl) (works18 ?_)
  conv => whnf
  repeat' (first
    | ((with_reducible refine regx_of ?_ ?_); (· decide +kernel); conv => whnf)
    | ((with_reducible refine growx_pre ?_ ?_); (· exact ⟨_, rfl⟩); conv => whnf)
    | ((with_reducible refine needm_of ?_ ?_); (· first | assumption | exact decide_eq_true (by omega) | exact mkOK_of (by decide) | decide +kernel | (refine decide_eq_true ?_; simp (disch := omega) only [i64w]; omega)); conv => whnf)
    | ((with_reducible refine condm_pos ?_ ?_); (· assumption); conv => whnf)
    | ((with_reducible refine condm_neg ?_ ?_); (· assumption); conv => whnf)
    | ((with_reducible refine forceL_fv (by assumption) ?_); conv => whnf)
    | ((with_reducible refine forceL_rfv (by assumption) ?_); conv => whnf)
    | ((with_reducible refine forceNm_of ?_); conv => whnf)
    | ((with_reducible refine needm_of (fv_lenL (by assumption) (by assumption)) ?_); conv => whnf)
    | ((with_reducible refine optm_var (fv_strL (by assumption) (by assumption)) (fun s hs => ?_)); conv => whnf)
    | ((with_reducible refine forceA_of ?_); conv => whnf)
    | ((with_reducible refine forceL_pl (by assumption) ?_); conv => whnf)
    | ((with_reducible refine forceL_rpl (by assumption) ?_); conv => whnf)
    | ((refine ext_from (by rfl) from_n from_f ?_); conv => whnf)
    | fail)
  refine Go.Eng.Fn.frame [] (by rfl) (by exact trivial) (by rfl) (new19 1 (by decide) (by decide) (fun cs hcs => ?_))
  have hp := Pl.prow hcs
  conv => whnf
  repeat' (first
    | ((with_reducible refine regx_of ?_ ?_); (· decide +kernel); conv => whnf)
    | ((with_reducible refine growx_pre ?_ ?_); (· exact ⟨_, rfl⟩); conv => whnf)
    | ((with_reducible refine needm_of ?_ ?_); (· first | assumption | exact decide_eq_true (by omega) | exact mkOK_of (by decide) | decide +kernel | (refine decide_eq_true ?_; simp (disch := omega) only [i64w]; omega)); conv => whnf)
    | ((with_reducible refine condm_pos ?_ ?_); (· assumption); conv => whnf)
    | ((with_reducible refine condm_neg ?_ ?_); (· assumption); conv => whnf)
    | ((with_reducible refine forceL_fv (by assumption) ?_); conv => whnf)
    | ((with_reducible refine forceL_rfv (by assumption) ?_); conv => whnf)
    | ((with_reducible refine forceNm_of ?_); conv => whnf)
    | ((with_reducible refine needm_of (fv_lenL (by assumption) (by assumption)) ?_); conv => whnf)
    | ((with_reducible refine optm_var (fv_strL (by assumption) (by assumption)) (fun s hs => ?_)); conv => whnf)
    | ((with_reducible refine forceA_of ?_); conv => whnf)
    | ((with_reducible refine forceL_pl (by assumption) ?_); conv => whnf)
    | ((with_reducible refine forceL_rpl (by assumption) ?_); conv => whnf)
    | ((refine ext_from (by rfl) from_n from_f ?_); conv => whnf)
    | fail)
  refine Go.Eng.Fn.frame [] (by rfl) (by exact trivial) (by rfl) (inf20 ?_)
  conv => whnf
  repeat' (first
    | ((with_reducible refine regx_of ?_ ?_); (· decide +kernel); conv => whnf)
    | ((with_reducible refine growx_pre ?_ ?_); (· exact ⟨_, rfl⟩); conv => whnf)
    | ((with_reducible refine needm_of ?_ ?_); (· first | assumption | exact decide_eq_true (by omega) | exact mkOK_of (by decide) | decide +kernel | (refine decide_eq_true ?_; simp (disch := omega) only [i64w]; omega)); conv => whnf)
    | ((with_reducible refine condm_pos ?_ ?_); (· assumption); conv => whnf)
    | ((with_reducible refine condm_neg ?_ ?_); (· assumption); conv => whnf)
    | ((with_reducible refine forceL_fv (by assumption) ?_); conv => whnf)
    | ((with_reducible refine forceL_rfv (by assumption) ?_); conv => whnf)
    | ((with_reducible refine forceNm_of ?_); conv => whnf)
    | ((with_reducible refine needm_of (fv_lenL (by assumption) (by assumption)) ?_); conv => whnf)
    | ((with_reducible refine optm_var (fv_strL (by assumption) (by assumption)) (fun s hs => ?_)); conv => whnf)
    | ((with_reducible refine forceA_of ?_); conv => whnf)
    | ((with_reducible refine forceL_pl (by assumption) ?_); conv => whnf)
    | ((with_reducible refine forceL_rpl (by assumption) ?_); conv => whnf)
    | ((refine ext_from (by rfl) from_n from_f ?_); conv => whnf)
    | fail)
  refine Go.Eng.Fn.frame [] (by rfl) (by exact trivial) (by rfl) (inf20m ?_)
  conv => whnf
  repeat' (first
    | ((with_reducible refine regx_of ?_ ?_); (· decide +kernel); conv => whnf)
    | ((with_reducible refine growx_pre ?_ ?_); (· exact ⟨_, rfl⟩); conv => whnf)
    | ((with_reducible refine needm_of ?_ ?_); (· first | assumption | exact decide_eq_true (by omega) | exact mkOK_of (by decide) | decide +kernel | (refine decide_eq_true ?_; simp (disch := omega) only [i64w]; omega)); conv => whnf)
    | ((with_reducible refine condm_pos ?_ ?_); (· assumption); conv => whnf)
    | ((with_reducible refine condm_neg ?_ ?_); (· assumption); conv => whnf)
    | ((with_reducible refine forceL_fv (by assumption) ?_); conv => whnf)
    | ((with_reducible refine forceL_rfv (by assumption) ?_); conv => whnf)
    | ((with_reducible refine forceNm_of ?_); conv => whnf)
    | ((with_reducible refine needm_of (fv_lenL (by assumption) (by assumption)) ?_); conv => whnf)
    | ((with_reducible refine optm_var (fv_strL (by assumption) (by assumption)) (fun s hs => ?_)); conv => whnf)
    | ((with_reducible refine forceA_of ?_); conv => whnf)
    | ((with_reducible refine forceL_pl (by assumption) ?_); conv => whnf)
    | ((with_reducible refine forceL_rpl (by assumption) ?_); conv => whnf)
    | ((refine ext_from (by rfl) from_n from_f ?_); conv => whnf)
    | fail)
  refine loopx_iter 1 ?_
  conv => whnf
  repeat' (first
    | ((with_reducible refine regx_of ?_ ?_); (· decide +kernel); conv => whnf)
    | ((with_reducible refine growx_pre ?_ ?_); (· exact ⟨_, rfl⟩); conv => whnf)
    | ((with_reducible refine needm_of ?_ ?_); (· first | assumption | exact decide_eq_true (by omega) | exact mkOK_of (by decide) | decide +kernel | (refine decide_eq_true ?_; simp (disch := omega) only [i64w]; omega)); conv => whnf)
    | ((with_reducible refine condm_pos ?_ ?_); (· assumption); conv => whnf)
    | ((with_reducible refine condm_neg ?_ ?_); (· assumption); conv => whnf)
    | ((with_reducible refine forceL_fv (by assumption) ?_); conv => whnf)
    | ((with_reducible refine forceL_rfv (by assumption) ?_); conv => whnf)
    | ((with_reducible refine forceNm_of ?_); conv => whnf)
    | ((with_reducible refine needm_of (fv_lenL (by assumption) (by assumption)) ?_); conv => whnf)
    | ((with_reducible refine optm_var (fv_strL (by assumption) (by assumption)) (fun s hs => ?_)); conv => whnf)
    | ((with_reducible refine forceA_of ?_); conv => whnf)
    | ((with_reducible refine forceL_pl (by assumption) ?_); conv => whnf)
    | ((with_reducible refine forceL_rpl (by assumption) ?_); conv => whnf)
    | ((refine ext_from (by rfl) from_n from_f ?_); conv => whnf)
    | fail)
theorem top5 (W : World) (y : A) (len cap : Nat) (G : Nat → List A) (hG : IsSl W 1 KU y len cap G) :
    Go.Eng.Fn Try.prog (roOf W) 5 [.a y] [] (fun v _ => v = .a (.bool true)) := by
  rcases id hG with ⟨rfl, _⟩ | ⟨p, rfl, h1, h2, _⟩
  · exact means_nil W
  · exact means W p len cap G hG (by unfold maxLen at h2; omega)
end
end Go.Proofs.Ytmnimmhpclhmfaa.PC
