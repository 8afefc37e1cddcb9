import Derived.Test.YtmnimmhpclhmfaaPS
namespace Go.Proofs.Ytmnimmhpclhmfaa.PC
open Go.Eng
set_option maxRecDepth 100000
def KW : List Sc := [.int .u64]
theorem MR.dbl {x : Pt} {lo hi : Nat} (h : MR x lo hi) (d : Int) : MR { x with dbl := d } lo hi := by
  cases h with
  | new h l u => exact .new h l u
  | old h l m u s hl hm hu hs h1 h2 => exact .old h l m u s hl hm hu hs h1 h2
theorem Good.dbl {x : Pt} (h : Good x) (d : Int) : Good { x with dbl := d } := by
  obtain ⟨lo, hi, h⟩ := h
  exact ⟨lo, hi, h.dbl d⟩
theorem Good.p0 : Good p0 := ⟨9218868437227405312, 18442240474082181120, .new rfl (by decide) (by decide)⟩
theorem heard_dbl {x y : Pt} {t : Nat} {d : Int} (h : HeardR { x with dbl := d } t y) : HeardR x t y := ⟨h.heard, h.dbl, h.ended, h.whn, h.share, h.first, h.later⟩
theorem wt_dbl (x : Pt) (d : Int) (k : Nat) : wt { x with dbl := d } k = wt x k := by unfold wt wb; rfl
theorem wt_p0 : wt p0 0 = 8 := by
  unfold wt wb
  rw [ldx_0]
  exact ticks_8
theorem wb_ok {x : Pt} (hg : Good x) : rung (wb x) ≤ bInf := by
  cases hh : x.heard with
  | false => exact wb_le hg ⟨_, .inl ⟨hh, rfl⟩⟩
  | true =>
    obtain ⟨m, hm⟩ : ∃ m, Ans (FloatKind.f64.format.mul 4616189618054758400 x.stray) m := by
      cases ho : FloatKind.f64.format.mul 4616189618054758400 x.stray with
      | some m => exact ⟨m, .inl rfl⟩
      | none => exact ⟨9221120237041090561, .inr ⟨rfl, by unfold isNan; decide, by decide⟩⟩
    obtain ⟨b, hb⟩ : ∃ m', Ans (FloatKind.f64.format.add x.mean m) m' := by
      cases ho : FloatKind.f64.format.add x.mean m with
      | some m => exact ⟨m, .inl rfl⟩
      | none => exact ⟨9221120237041090561, .inr ⟨rfl, by unfold isNan; decide, by decide⟩⟩
    exact wb_le hg ⟨b, .inr ⟨hh, m, hm, hb⟩⟩
theorem wt_in {x : Pt} (hg : Good x) (k : Nat) : 1 ≤ wt x k ∧ wt x k ≤ 1000 := by
  unfold wt
  exact (ticks_lt (ldx_le (wb_ok hg) k)).1
theorem wt_mono {x : Pt} (hg : Good x) (k : Nat) : wt x k ≤ wt x (k + 1) := by
  unfold wt
  exact ticks_mono (ldx_mono (wb_ok hg) k) (ldx_le (wb_ok hg) (k + 1))
theorem took_one : took 4607182418800017408 = true := by unfold took fin fLtK; decide +kernel
theorem three {x x' : Pt} {k : Nat} (h : [p0, x, p0][k]? = some x') (e : (2 : Int) = ((k + 1 : Nat) : Int)) : k = 1 ∧ x = x' := by
  obtain rfl : k = 1 := by omega
  exact ⟨rfl, by simpa using h⟩
theorem dbls {x : Pt} {d : Nat} (h : x.dbl = d) (h2 : d ≤ 10) : ∀ z ∈ [p0, x, p0], 0 ≤ z.dbl ∧ z.dbl ≤ 10 := by
  intro z hz
  simp only [List.mem_cons, List.not_mem_nil, or_false] at hz
  rcases hz with rfl | rfl | rfl
  · exact ⟨by decide, by decide⟩
  · omega
  · exact ⟨by decide, by decide⟩
theorem goods {x : Pt} (h : Good x) : ∀ z ∈ [p0, x, p0], Good z := by
  intro z hz
  simp only [List.mem_cons, List.not_mem_nil, or_false] at hz
  rcases hz with rfl | rfl | rfl
  · exact Good.p0
  · exact h
  · exact Good.p0
section
set_option maxHeartbeats 2000000 in
theorem waits (W : World) (p : Addr) (len cap : Nat) (G : Nat → List A) (hG : IsSl W 1 KW (.rslc p len cap) len cap G) (hlen : len ≤ 9223372036854775807) (fails : Int) :
    Go.Eng.Fn Try.prog (roOf W) 6 [.a (.rslc p len cap), .a (.int .i64 fails)] [] (fun v _ => v = .a (.bool true)) := by
  refine Go.Eng.Fn.of_code (gOf []) Try.func6 rfl (Nat.le_of_ble_eq_true rfl) ?_
  conv => whnf
  repeat' (first
    | ((with_reducible refine regx_of ?_ ?_); (· decide +kernel); conv => whnf)
    | ((with_reducible refine growx_pre ?_ ?_); (· exact ⟨_, rfl⟩); conv => whnf)
    | ((with_reducible refine needm_of ?_ ?_); (· first | assumption | exact decide_eq_true (by omega) | exact mkOK_of (by decide) | decide +kernel | (refine decide_eq_true ?_; simp (disch := omega) only [i64w]; omega)); conv => whnf)
    | ((with_reducible refine condm_pos ?_ ?_); (· assumption); conv => whnf)
    | ((with_reducible refine condm_neg ?_ ?_); (· assumption); conv => whnf)
    | ((with_reducible refine forceL_fv (by assumption) ?_); conv => whnf)
    | ((with_reducible refine forceL_rfv (by assumption) ?_); conv => whnf)
    | ((with_reducible refine forceNm_of ?_); conv => whnf)
    | ((with_reducible refine needm_of (fv_lenL (by assumption) (by assumption)) ?_); conv => whnf)
    | ((with_reducible refine optm_var (fv_strL (by assumption) (by assumption)) (fun s hs => ?_)); conv => whnf)
    | ((with_reducible refine forceA_of ?_); conv => whnf)
    | ((with_reducible refine forceL_pl (by assumption) ?_); conv => whnf)
    | ((with_reducible refine forceL_rpl (by assumption) ?_); conv => whnf)
    | ((refine ext_from (by rfl) from_n from_f ?_); conv => whnf)
    | fail)
  refine Go.Eng.Fn.frame [] (by rfl) (by exact trivial) (by rfl) (works18 ?_)
  conv => whnf
  repeat' (first
    | ((with_reducible refine regx_of ?_ ?_); (· decide +kernel); conv => whnf)
    | ((with_reducible refine growx_pre ?_ ?_); (· exact ⟨_, rfl⟩); conv => whnf)
    | ((with_reducible refine needm_of ?_ ?_); (· first | assumption | exact decide_eq_true (by omega) | exact mkOK_of (by decide) | decide +kernel | (refine decide_eq_true ?_; simp (disch := omega) only [i64w]; omega)); conv => whnf)
    | ((with_reducible refine condm_pos ?_ ?_); (· assumption); conv => whnf)
    | ((with_reducible refine condm_neg ?_ ?_); (· assumption); conv => whnf)
    | ((with_reducible refine forceL_fv (by assumption) ?_); conv => whnf)
    | ((with_reducible refine forceL_rfv (by assumption) ?_); conv => whnf)
    | ((with_reducible refine forceNm_of ?_); conv => whnf)
    | ((with_reducible refine needm_of (fv_lenL (by assumption) (by assumption)) ?_); conv => whnf)
    | ((with_reducible refine optm_var (fv_strL (by assumption) (by assumption)) (fun s hs => ?_)); conv => whnf)
    | ((with_reducible refine forceA_of ?_); conv => whnf)
    | ((with_reducible refine forceL_pl (by assumption) ?_); conv => whnf)
    | ((with_reducible refine forceL_rpl (by assumption) ?_); conv => whnf)
    | ((refine ext_from (by rfl) from_n from_f ?_); conv => whnf)
    | fail)
  refine Go.Eng.Fn.frame [] (by rfl) (by exact trivial) (by rfl) (new19 3 (by decide) (by decide) (fun cs hcs => ?_))
  replace hcs : cs = prow [p0, p0, p0] := hcs
  have hp := Pl.prow hcs
  conv => whnf
  repeat' (first
    | ((with_reducible refine regx_of ?_ ?_); (· decide +kernel); conv => whnf)
    | ((with_reducible refine growx_pre ?_ ?_); (· exact ⟨_, rfl⟩); conv => whnf)
    | ((with_reducible refine needm_of ?_ ?_); (· first | assumption | exact decide_eq_true (by omega) | exact mkOK_of (by decide) | decide +kernel | (refine decide_eq_true ?_; simp (disch := omega) only [i64w]; omega)); conv => whnf)
    | ((with_reducible refine condm_pos ?_ ?_); (· assumption); conv => whnf)
    | ((with_reducible refine condm_neg ?_ ?_); (· assumption); conv => whnf)
    | ((with_reducible refine forceL_fv (by assumption) ?_); conv => whnf)
    | ((with_reducible refine forceL_rfv (by assumption) ?_); conv => whnf)
    | ((with_reducible refine forceNm_of ?_); conv => whnf)
    | ((with_reducible refine needm_of (fv_lenL (by assumption) (by assumption)) ?_); conv => whnf)
    | ((with_reducible refine optm_var (fv_strL (by assumption) (by assumption)) (fun s hs => ?_)); conv => whnf)
    | ((with_reducible refine forceA_of ?_); conv => whnf)
    | ((with_reducible refine forceL_pl (by assumption) ?_); conv => whnf)
    | ((with_reducible refine forceL_rpl (by assumption) ?_); conv => whnf)
    | ((refine ext_from (by rfl) from_n from_f ?_); conv => whnf)
    | fail)
  refine Go.Eng.Fn.frame [] (by rfl) (by exact trivial) (by rfl) (new19 3 (by decide) (by decide) (fun ds hds => ?_))
  replace hds : ds = prow [p0, p0, p0] := hds
  have hq := Pl.prow hds
  conv => whnf
  repeat' (first
    | ((with_reducible refine regx_of ?_ ?_); (· decide +kernel); conv => whnf)
    | ((with_reducible refine growx_pre ?_ ?_); (· exact ⟨_, rfl⟩); conv => whnf)
    | ((with_reducible refine needm_of ?_ ?_); (· first | assumption | exact decide_eq_true (by omega) | exact mkOK_of (by decide) | decide +kernel | (refine decide_eq_true ?_; simp (disch := omega) only [i64w]; omega)); conv => whnf)
    | ((with_reducible refine condm_pos ?_ ?_); (· assumption); conv => whnf)
    | ((with_reducible refine condm_neg ?_ ?_); (· assumption); conv => whnf)
    | ((with_reducible refine forceL_fv (by assumption) ?_); conv => whnf)
    | ((with_reducible refine forceL_rfv (by assumption) ?_); conv => whnf)
    | ((with_reducible refine forceNm_of ?_); conv => whnf)
    | ((with_reducible refine needm_of (fv_lenL (by assumption) (by assumption)) ?_); conv => whnf)
    | ((with_reducible refine optm_var (fv_strL (by assumption) (by assumption)) (fun s hs => ?_)); conv => whnf)
    | ((with_reducible refine forceA_of ?_); conv => whnf)
    | ((with_reducible refine forceL_pl (by assumption) ?_); conv => whnf)
    | ((with_reducible refine forceL_rpl (by assumption) ?_); conv => whnf)
    | ((refine ext_from (by rfl) from_n from_f ?_); conv => whnf)
    | fail)
  refine loopx_of (fun m F H => ∃ (i : Nat) (x : Pt) (cs ds : List A), i ≤ len ∧ m = len - i ∧ cs = prow [p0, x, p0] ∧ ds = prow [p0, x, p0] ∧ Good x ∧ x.dbl = (0 : Nat) ∧ F = [(0, .a (.rslc p len cap)), (1, .a (.int .i64 fails)), (5, .a (.ptr 1 0)), (7, .a (.ptr 3 0)), (9, .a (.int .i64 i))] ∧ H = [.cells cs 73 false, .cells [.slc 0 0 3 3] 68 false, .cells ds 73 false, .cells [.slc 2 0 3 3] 68 false]) len ?_ ?_
  · exact Into.weak [0, 1, 2, 3] [(0, .a (.rslc p len cap)), (1, .a (.int .i64 fails)), (5, .a (.ptr 1 0)), (7, .a (.ptr 3 0)), (9, .a (.int .i64 (0 : Nat)))] [.cells cs 73 false, .cells [.slc 0 0 3 3] 68 false, .cells ds 73 false, .cells [.slc 2 0 3 3] 68 false] ⟨0, p0, cs, ds, by omega, rfl, hcs, hds, Good.p0, rfl, rfl, rfl⟩ ⟨rfl, rfl, rfl, rfl, rfl, trivial⟩ ⟨ren_pl hp _ _ _, rfl, ren_pl hq _ _ _, rfl, trivial⟩ (by simp [nodupb, baseb, Ob.okb, frmOk, V.okb, A.okb, hp.2, hq.2] <;> decide)
  · clear hcs hp cs hds hq ds
    rintro m F H ⟨i, x, cs, ds, hi1, rfl, hcs, hds, hg, hd0, rfl, rfl⟩
    have hp := Pl.prow hcs
    have hq := Pl.prow hds
    conv => whnf
    repeat' (first
      | ((with_reducible refine regx_of ?_ ?_); (· decide +kernel); conv => whnf)
      | ((with_reducible refine growx_pre ?_ ?_); (· exact ⟨_, rfl⟩); conv => whnf)
      | ((with_reducible refine needm_of ?_ ?_); (· first | assumption | exact decide_eq_true (by omega) | exact mkOK_of (by decide) | decide +kernel | (refine decide_eq_true ?_; simp (disch := omega) only [i64w]; omega)); conv => whnf)
      | ((with_reducible refine condm_pos ?_ ?_); (· assumption); conv => whnf)
      | ((with_reducible refine condm_neg ?_ ?_); (· assumption); conv => whnf)
      | ((with_reducible refine forceL_fv (by assumption) ?_); conv => whnf)
      | ((with_reducible refine forceL_rfv (by assumption) ?_); conv => whnf)
      | ((with_reducible refine forceNm_of ?_); conv => whnf)
      | ((with_reducible refine needm_of (fv_lenL (by assumption) (by assumption)) ?_); conv => whnf)
      | ((with_reducible refine optm_var (fv_strL (by assumption) (by assumption)) (fun s hs => ?_)); conv => whnf)
      | ((with_reducible refine forceA_of ?_); conv => whnf)
      | ((with_reducible refine forceL_pl (by assumption) ?_); conv => whnf)
      | ((with_reducible refine forceL_rpl (by assumption) ?_); conv => whnf)
      | ((refine ext_from (by rfl) from_n from_f ?_); conv => whnf)
      | fail)
    refine condm_of (fun h => ?_) (fun h => ?_)
    · have hil : i < len := by have := of_decide_eq_true h; omega
      have hw : IntKind.i64.wrap (↑i + 1) = ((i + 1 : Nat) : Int) := by rw [i64w (by omega) (by omega)]; rfl
      obtain ⟨hf, hro⟩ := hG.get hil
      unfold KW at hf
      obtain ⟨X, r0, e0, b0, f0⟩ := Fits.int hf
      obtain rfl := Fits.nil f0
      rw [e0] at hro
      have hX0 : (0 : Int) ≤ X := b0.1
      have hX1 : X ≤ 18446744073709551615 := b0.2
      have ld : roOf W (p.add (i * 1)) (.int .u64 X) := hro 0 _ rfl
      clear hro e0 f0 hf b0
      conv => whnf
      repeat' (first
        | ((with_reducible refine regx_of ?_ ?_); (· decide +kernel); conv => whnf)
        | ((with_reducible refine growx_pre ?_ ?_); (· exact ⟨_, rfl⟩); conv => whnf)
        | ((with_reducible refine needm_of ?_ ?_); (· first | assumption | exact decide_eq_true (by omega) | exact mkOK_of (by decide) | decide +kernel | (refine decide_eq_true ?_; simp (disch := omega) only [i64w]; omega)); conv => whnf)
        | ((with_reducible refine condm_pos ?_ ?_); (· assumption); conv => whnf)
        | ((with_reducible refine condm_neg ?_ ?_); (· assumption); conv => whnf)
        | ((with_reducible refine forceL_fv (by assumption) ?_); conv => whnf)
        | ((with_reducible refine forceL_rfv (by assumption) ?_); conv => whnf)
        | ((with_reducible refine forceNm_of ?_); conv => whnf)
        | ((with_reducible refine needm_of (fv_lenL (by assumption) (by assumption)) ?_); conv => whnf)
        | ((with_reducible refine optm_var (fv_strL (by assumption) (by assumption)) (fun s hs => ?_)); conv => whnf)
        | ((with_reducible refine forceA_of ?_); conv => whnf)
        | ((with_reducible refine forceL_pl (by assumption) ?_); conv => whnf)
        | ((with_reducible refine forceL_rpl (by assumption) ?_); conv => whnf)
        | ((refine ext_from (by rfl) from_n from_f ?_); conv => whnf)
        | fail)
      refine ⟨_, ld, ?_⟩
      conv => whnf
      repeat' (first
        | ((with_reducible refine regx_of ?_ ?_); (· decide +kernel); conv => whnf)
        | ((with_reducible refine growx_pre ?_ ?_); (· exact ⟨_, rfl⟩); conv => whnf)
        | ((with_reducible refine needm_of ?_ ?_); (· first | assumption | exact decide_eq_true (by omega) | exact mkOK_of (by decide) | decide +kernel | (refine decide_eq_true ?_; simp (disch := omega) only [i64w]; omega)); conv => whnf)
        | ((with_reducible refine condm_pos ?_ ?_); (· assumption); conv => whnf)
        | ((with_reducible refine condm_neg ?_ ?_); (· assumption); conv => whnf)
        | ((with_reducible refine forceL_fv (by assumption) ?_); conv => whnf)
        | ((with_reducible refine forceL_rfv (by assumption) ?_); conv => whnf)
        | ((with_reducible refine forceNm_of ?_); conv => whnf)
        | ((with_reducible refine needm_of (fv_lenL (by assumption) (by assumption)) ?_); conv => whnf)
        | ((with_reducible refine optm_var (fv_strL (by assumption) (by assumption)) (fun s hs => ?_)); conv => whnf)
        | ((with_reducible refine forceA_of ?_); conv => whnf)
        | ((with_reducible refine forceL_pl (by assumption) ?_); conv => whnf)
        | ((with_reducible refine forceL_rpl (by assumption) ?_); conv => whnf)
        | ((refine ext_from (by rfl) from_n from_f ?_); conv => whnf)
        | fail)
      have hXn : X.toNat < 18446744073709551616 := by omega
      generalize X.toNat = t at *
      refine Go.Eng.Fn.frame [0, 1] (by rfl) (by exact ⟨ren_pl hp _ _ _, rfl, trivial⟩) (by simp [nodupb, V.okb, A.okb, Ob.okb, hp.2] <;> decide) (failed23 [p0, x, p0] cs 3 false hcs rfl (by decide) (dbls hd0 (by decide)) 2 (fun h => absurd ⟨by decide, by decide⟩ h) (fun k x' hx e cs1 hcs1 => ?_))
      obtain ⟨rfl, rfl⟩ := three hx e
      clear hx e
      obtain ⟨x1, hx1⟩ : ∃ x1 : Pt, x1 = { x with dbl := min (x.dbl + 1) 10 } := ⟨_, rfl⟩
      replace hcs1 : cs1 = prow [p0, x1, p0] := by rw [hcs1, hx1]; rfl
      have hp1 := Pl.prow hcs1
      have hg1 : Good x1 := by rw [hx1]; exact hg.dbl _
      conv => whnf
      repeat' (first
        | ((with_reducible refine regx_of ?_ ?_); (· decide +kernel); conv => whnf)
        | ((with_reducible refine growx_pre ?_ ?_); (· exact ⟨_, rfl⟩); conv => whnf)
        | ((with_reducible refine needm_of ?_ ?_); (· first | assumption | exact decide_eq_true (by omega) | exact mkOK_of (by decide) | decide +kernel | (refine decide_eq_true ?_; simp (disch := omega) only [i64w]; omega)); conv => whnf)
        | ((with_reducible refine condm_pos ?_ ?_); (· assumption); conv => whnf)
        | ((with_reducible refine condm_neg ?_ ?_); (· assumption); conv => whnf)
        | ((with_reducible refine forceL_fv (by assumption) ?_); conv => whnf)
        | ((with_reducible refine forceL_rfv (by assumption) ?_); conv => whnf)
        | ((with_reducible refine forceNm_of ?_); conv => whnf)
        | ((with_reducible refine needm_of (fv_lenL (by assumption) (by assumption)) ?_); conv => whnf)
        | ((with_reducible refine optm_var (fv_strL (by assumption) (by assumption)) (fun s hs => ?_)); conv => whnf)
        | ((with_reducible refine forceA_of ?_); conv => whnf)
        | ((with_reducible refine forceL_pl (by assumption) ?_); conv => whnf)
        | ((with_reducible refine forceL_rpl (by assumption) ?_); conv => whnf)
        | ((refine ext_from (by rfl) from_n from_f ?_); conv => whnf)
        | fail)
      refine Go.Eng.Fn.frame [0, 1] (by rfl) (by exact ⟨ren_pl hp1 _ _ _, rfl, trivial⟩) (by simp [nodupb, V.okb, A.okb, Ob.okb, hp1.2] <;> decide) (heard22 [p0, x1, p0] cs1 3 false hcs1 rfl (by decide) 2 t hXn (fun h => absurd ⟨by decide, by decide⟩ h) (fun k x' hx e hf => ?_) (fun k x' hx e hf y hy cs' hcs' => ?_))
      · obtain ⟨rfl, rfl⟩ := three hx e
        clear hx e
        conv => whnf
        repeat' (first
          | ((with_reducible refine regx_of ?_ ?_); (· decide +kernel); conv => whnf)
          | ((with_reducible refine growx_pre ?_ ?_); (· exact ⟨_, rfl⟩); conv => whnf)
          | ((with_reducible refine needm_of ?_ ?_); (· first | assumption | exact decide_eq_true (by omega) | exact mkOK_of (by decide) | decide +kernel | (refine decide_eq_true ?_; simp (disch := omega) only [i64w]; omega)); conv => whnf)
          | ((with_reducible refine condm_pos ?_ ?_); (· assumption); conv => whnf)
          | ((with_reducible refine condm_neg ?_ ?_); (· assumption); conv => whnf)
          | ((with_reducible refine forceL_fv (by assumption) ?_); conv => whnf)
          | ((with_reducible refine forceL_rfv (by assumption) ?_); conv => whnf)
          | ((with_reducible refine forceNm_of ?_); conv => whnf)
          | ((with_reducible refine needm_of (fv_lenL (by assumption) (by assumption)) ?_); conv => whnf)
          | ((with_reducible refine optm_var (fv_strL (by assumption) (by assumption)) (fun s hs => ?_)); conv => whnf)
          | ((with_reducible refine forceA_of ?_); conv => whnf)
          | ((with_reducible refine forceL_pl (by assumption) ?_); conv => whnf)
          | ((with_reducible refine forceL_rpl (by assumption) ?_); conv => whnf)
          | ((refine ext_from (by rfl) from_n from_f ?_); conv => whnf)
          | fail)
        refine Go.Eng.Fn.frame [2, 3] (by rfl) (by exact ⟨ren_pl hq _ _ _, rfl, trivial⟩) (by simp [nodupb, V.okb, A.okb, Ob.okb, hq.2] <;> decide) (heard22 [p0, x, p0] ds 3 false hds rfl (by decide) 2 t hXn (fun h => absurd ⟨by decide, by decide⟩ h) (fun k x' hx e hf2 => ?_) (fun k x' hx e hf2 y hy cs' hcs' => absurd (hf.symm.trans hf2) (by decide)))
        clear hf hf2
        conv => whnf
        repeat' (first
          | ((with_reducible refine regx_of ?_ ?_); (· decide +kernel); conv => whnf)
          | ((with_reducible refine growx_pre ?_ ?_); (· exact ⟨_, rfl⟩); conv => whnf)
          | ((with_reducible refine needm_of ?_ ?_); (· first | assumption | exact decide_eq_true (by omega) | exact mkOK_of (by decide) | decide +kernel | (refine decide_eq_true ?_; simp (disch := omega) only [i64w]; omega)); conv => whnf)
          | ((with_reducible refine condm_pos ?_ ?_); (· assumption); conv => whnf)
          | ((with_reducible refine condm_neg ?_ ?_); (· assumption); conv => whnf)
          | ((with_reducible refine forceL_fv (by assumption) ?_); conv => whnf)
          | ((with_reducible refine forceL_rfv (by assumption) ?_); conv => whnf)
          | ((with_reducible refine forceNm_of ?_); conv => whnf)
          | ((with_reducible refine needm_of (fv_lenL (by assumption) (by assumption)) ?_); conv => whnf)
          | ((with_reducible refine optm_var (fv_strL (by assumption) (by assumption)) (fun s hs => ?_)); conv => whnf)
          | ((with_reducible refine forceA_of ?_); conv => whnf)
          | ((with_reducible refine forceL_pl (by assumption) ?_); conv => whnf)
          | ((with_reducible refine forceL_rpl (by assumption) ?_); conv => whnf)
          | ((refine ext_from (by rfl) from_n from_f ?_); conv => whnf)
          | fail)
        refine Go.Eng.Fn.frame [0, 1] (by rfl) (by exact ⟨ren_pl hp1 _ _ _, rfl, trivial⟩) (by simp [nodupb, V.okb, A.okb, Ob.okb, hp1.2] <;> decide) (heard22 [p0, x1, p0] cs1 3 false hcs1 rfl (by decide) 2 4607182418800017408 (by decide) (fun h => absurd ⟨by decide, by decide⟩ h) (fun k x' hx e hf => absurd (took_one.symm.trans hf) (by decide)) (fun k x' hx e hf y hy cs' hcs' => ?_))
        obtain ⟨a, hat⟩ := took_at took_one
        obtain ⟨rfl, rfl⟩ := three hx e
        clear hx e hf
        replace hcs' : cs' = prow [p0, y, p0] := hcs'
        have hp' := Pl.prow hcs'
        rw [hx1] at hy
        replace hy := heard_dbl hy
        conv => whnf
        repeat' (first
          | ((with_reducible refine regx_of ?_ ?_); (· decide +kernel); conv => whnf)
          | ((with_reducible refine growx_pre ?_ ?_); (· exact ⟨_, rfl⟩); conv => whnf)
          | ((with_reducible refine needm_of ?_ ?_); (· first | assumption | exact decide_eq_true (by omega) | exact mkOK_of (by decide) | decide +kernel | (refine decide_eq_true ?_; simp (disch := omega) only [i64w]; omega)); conv => whnf)
          | ((with_reducible refine condm_pos ?_ ?_); (· assumption); conv => whnf)
          | ((with_reducible refine condm_neg ?_ ?_); (· assumption); conv => whnf)
          | ((with_reducible refine forceL_fv (by assumption) ?_); conv => whnf)
          | ((with_reducible refine forceL_rfv (by assumption) ?_); conv => whnf)
          | ((with_reducible refine forceNm_of ?_); conv => whnf)
          | ((with_reducible refine needm_of (fv_lenL (by assumption) (by assumption)) ?_); conv => whnf)
          | ((with_reducible refine optm_var (fv_strL (by assumption) (by assumption)) (fun s hs => ?_)); conv => whnf)
          | ((with_reducible refine forceA_of ?_); conv => whnf)
          | ((with_reducible refine forceL_pl (by assumption) ?_); conv => whnf)
          | ((with_reducible refine forceL_rpl (by assumption) ?_); conv => whnf)
          | ((refine ext_from (by rfl) from_n from_f ?_); conv => whnf)
          | fail)
        refine Go.Eng.Fn.frame [2, 3] (by rfl) (by exact ⟨ren_pl hq _ _ _, rfl, trivial⟩) (by simp [nodupb, V.okb, A.okb, Ob.okb, hq.2] <;> decide) (heard22 [p0, x, p0] ds 3 false hds rfl (by decide) 2 4607182418800017408 (by decide) (fun h => absurd ⟨by decide, by decide⟩ h) (fun k x' hx e hf => absurd (took_one.symm.trans hf) (by decide)) (fun k x' hx e hf y' hy' ds' hds' => ?_))
        obtain ⟨rfl, rfl⟩ := three hx e
        clear hx e hf
        obtain ⟨lo, hi, hM⟩ := id hg
        obtain rfl := heard_det hM hat hy hy'
        replace hds' : ds' = prow [p0, y, p0] := hds'
        have hq' := Pl.prow hds'
        have hg' := heard_good hg hat hy
        have hd' : y.dbl = (0 : Nat) := hy.dbl
        conv => whnf
        repeat' (first
          | ((with_reducible refine regx_of ?_ ?_); (· decide +kernel); conv => whnf)
          | ((with_reducible refine growx_pre ?_ ?_); (· exact ⟨_, rfl⟩); conv => whnf)
          | ((with_reducible refine needm_of ?_ ?_); (· first | assumption | exact decide_eq_true (by omega) | exact mkOK_of (by decide) | decide +kernel | (refine decide_eq_true ?_; simp (disch := omega) only [i64w]; omega)); conv => whnf)
          | ((with_reducible refine condm_pos ?_ ?_); (· assumption); conv => whnf)
          | ((with_reducible refine condm_neg ?_ ?_); (· assumption); conv => whnf)
          | ((with_reducible refine forceL_fv (by assumption) ?_); conv => whnf)
          | ((with_reducible refine forceL_rfv (by assumption) ?_); conv => whnf)
          | ((with_reducible refine forceNm_of ?_); conv => whnf)
          | ((with_reducible refine needm_of (fv_lenL (by assumption) (by assumption)) ?_); conv => whnf)
          | ((with_reducible refine optm_var (fv_strL (by assumption) (by assumption)) (fun s hs => ?_)); conv => whnf)
          | ((with_reducible refine forceA_of ?_); conv => whnf)
          | ((with_reducible refine forceL_pl (by assumption) ?_); conv => whnf)
          | ((with_reducible refine forceL_rpl (by assumption) ?_); conv => whnf)
          | ((refine ext_from (by rfl) from_n from_f ?_); conv => whnf)
          | fail)
        exact ⟨len - (i + 1), by omega, Into.weak [0, 1, 2, 3] [(0, .a (.rslc p len cap)), (1, .a (.int .i64 fails)), (5, .a (.ptr 1 0)), (7, .a (.ptr 3 0)), (9, .a (.int .i64 ((i + 1 : Nat) : Int)))] [.cells cs' 73 false, .cells [.slc 0 0 3 3] 68 false, .cells ds' 73 false, .cells [.slc 2 0 3 3] 68 false] ⟨i + 1, y, cs', ds', by omega, rfl, hcs', hds', hg', hd', rfl, rfl⟩ ⟨rfl, rfl, rfl, rfl, congrArg (fun z => some (V.a (.int .i64 z))) hw, trivial⟩ ⟨ren_pl hp' _ _ _, rfl, ren_pl hq' _ _ _, rfl, trivial⟩ (by simp [nodupb, baseb, Ob.okb, frmOk, V.okb, A.okb, hp'.2, hq'.2] <;> decide)⟩
      · obtain ⟨rfl, rfl⟩ := three hx e
        clear hx e
        obtain ⟨a, hat⟩ := took_at hf
        replace hcs' : cs' = prow [p0, y, p0] := hcs'
        have hp' := Pl.prow hcs'
        rw [hx1] at hy
        replace hy := heard_dbl hy
        conv => whnf
        repeat' (first
          | ((with_reducible refine regx_of ?_ ?_); (· decide +kernel); conv => whnf)
          | ((with_reducible refine growx_pre ?_ ?_); (· exact ⟨_, rfl⟩); conv => whnf)
          | ((with_reducible refine needm_of ?_ ?_); (· first | assumption | exact decide_eq_true (by omega) | exact mkOK_of (by decide) | decide +kernel | (refine decide_eq_true ?_; simp (disch := omega) only [i64w]; omega)); conv => whnf)
          | ((with_reducible refine condm_pos ?_ ?_); (· assumption); conv => whnf)
          | ((with_reducible refine condm_neg ?_ ?_); (· assumption); conv => whnf)
          | ((with_reducible refine forceL_fv (by assumption) ?_); conv => whnf)
          | ((with_reducible refine forceL_rfv (by assumption) ?_); conv => whnf)
          | ((with_reducible refine forceNm_of ?_); conv => whnf)
          | ((with_reducible refine needm_of (fv_lenL (by assumption) (by assumption)) ?_); conv => whnf)
          | ((with_reducible refine optm_var (fv_strL (by assumption) (by assumption)) (fun s hs => ?_)); conv => whnf)
          | ((with_reducible refine forceA_of ?_); conv => whnf)
          | ((with_reducible refine forceL_pl (by assumption) ?_); conv => whnf)
          | ((with_reducible refine forceL_rpl (by assumption) ?_); conv => whnf)
          | ((refine ext_from (by rfl) from_n from_f ?_); conv => whnf)
          | fail)
        refine Go.Eng.Fn.frame [2, 3] (by rfl) (by exact ⟨ren_pl hq _ _ _, rfl, trivial⟩) (by simp [nodupb, V.okb, A.okb, Ob.okb, hq.2] <;> decide) (heard22 [p0, x, p0] ds 3 false hds rfl (by decide) 2 t hXn (fun h => absurd ⟨by decide, by decide⟩ h) (fun k x' hx e hf2 => absurd (hf.symm.trans hf2) (by decide)) (fun k x' hx e hf2 y' hy' ds' hds' => ?_))
        obtain ⟨rfl, rfl⟩ := three hx e
        clear hx e hf hf2
        obtain ⟨lo, hi, hM⟩ := id hg
        obtain rfl := heard_det hM hat hy hy'
        replace hds' : ds' = prow [p0, y, p0] := hds'
        have hq' := Pl.prow hds'
        have hg' := heard_good hg hat hy
        have hd' : y.dbl = (0 : Nat) := hy.dbl
        conv => whnf
        repeat' (first
          | ((with_reducible refine regx_of ?_ ?_); (· decide +kernel); conv => whnf)
          | ((with_reducible refine growx_pre ?_ ?_); (· exact ⟨_, rfl⟩); conv => whnf)
          | ((with_reducible refine needm_of ?_ ?_); (· first | assumption | exact decide_eq_true (by omega) | exact mkOK_of (by decide) | decide +kernel | (refine decide_eq_true ?_; simp (disch := omega) only [i64w]; omega)); conv => whnf)
          | ((with_reducible refine condm_pos ?_ ?_); (· assumption); conv => whnf)
          | ((with_reducible refine condm_neg ?_ ?_); (· assumption); conv => whnf)
          | ((with_reducible refine forceL_fv (by assumption) ?_); conv => whnf)
          | ((with_reducible refine forceL_rfv (by assumption) ?_); conv => whnf)
          | ((with_reducible refine forceNm_of ?_); conv => whnf)
          | ((with_reducible refine needm_of (fv_lenL (by assumption) (by assumption)) ?_); conv => whnf)
          | ((with_reducible refine optm_var (fv_strL (by assumption) (by assumption)) (fun s hs => ?_)); conv => whnf)
          | ((with_reducible refine forceA_of ?_); conv => whnf)
          | ((with_reducible refine forceL_pl (by assumption) ?_); conv => whnf)
          | ((with_reducible refine forceL_rpl (by assumption) ?_); conv => whnf)
          | ((refine ext_from (by rfl) from_n from_f ?_); conv => whnf)
          | fail)
        refine Go.Eng.Fn.frame [0, 1] (by rfl) (by exact ⟨ren_pl hp' _ _ _, rfl, trivial⟩) (by simp [nodupb, V.okb, A.okb, Ob.okb, hp'.2] <;> decide) (wait24g [p0, y, p0] cs' 3 false hcs' rfl (by decide) (goods hg') (dbls hd' (by decide)) 2 (fun h => absurd ⟨by decide, by decide⟩ h) (fun k x' hx e q hqe => ?_))
        obtain ⟨rfl, rfl⟩ := three hx e
        clear hx e
        conv => whnf
        repeat' (first
          | ((with_reducible refine regx_of ?_ ?_); (· decide +kernel); conv => whnf)
          | ((with_reducible refine growx_pre ?_ ?_); (· exact ⟨_, rfl⟩); conv => whnf)
          | ((with_reducible refine needm_of ?_ ?_); (· first | assumption | exact decide_eq_true (by omega) | exact mkOK_of (by decide) | decide +kernel | (refine decide_eq_true ?_; simp (disch := omega) only [i64w]; omega)); conv => whnf)
          | ((with_reducible refine condm_pos ?_ ?_); (· assumption); conv => whnf)
          | ((with_reducible refine condm_neg ?_ ?_); (· assumption); conv => whnf)
          | ((with_reducible refine forceL_fv (by assumption) ?_); conv => whnf)
          | ((with_reducible refine forceL_rfv (by assumption) ?_); conv => whnf)
          | ((with_reducible refine forceNm_of ?_); conv => whnf)
          | ((with_reducible refine needm_of (fv_lenL (by assumption) (by assumption)) ?_); conv => whnf)
          | ((with_reducible refine optm_var (fv_strL (by assumption) (by assumption)) (fun s hs => ?_)); conv => whnf)
          | ((with_reducible refine forceA_of ?_); conv => whnf)
          | ((with_reducible refine forceL_pl (by assumption) ?_); conv => whnf)
          | ((with_reducible refine forceL_rpl (by assumption) ?_); conv => whnf)
          | ((refine ext_from (by rfl) from_n from_f ?_); conv => whnf)
          | fail)
        refine Go.Eng.Fn.frame [2, 3] (by rfl) (by exact ⟨ren_pl hq' _ _ _, rfl, trivial⟩) (by simp [nodupb, V.okb, A.okb, Ob.okb, hq'.2] <;> decide) (wait24g [p0, y, p0] ds' 3 false hds' rfl (by decide) (goods hg') (dbls hd' (by decide)) 2 (fun h => absurd ⟨by decide, by decide⟩ h) (fun k x' hx e q' hqe' => ?_))
        obtain ⟨rfl, rfl⟩ := three hx e
        clear hx e
        obtain rfl : q = q' := hqe.trans hqe'.symm
        have c9 : ((q : Int) != (q : Int)) = false := by simp
        conv => whnf
        repeat' (first
          | ((with_reducible refine regx_of ?_ ?_); (· decide +kernel); conv => whnf)
          | ((with_reducible refine growx_pre ?_ ?_); (· exact ⟨_, rfl⟩); conv => whnf)
          | ((with_reducible refine needm_of ?_ ?_); (· first | assumption | exact decide_eq_true (by omega) | exact mkOK_of (by decide) | decide +kernel | (refine decide_eq_true ?_; simp (disch := omega) only [i64w]; omega)); conv => whnf)
          | ((with_reducible refine condm_pos ?_ ?_); (· assumption); conv => whnf)
          | ((with_reducible refine condm_neg ?_ ?_); (· assumption); conv => whnf)
          | ((with_reducible refine forceL_fv (by assumption) ?_); conv => whnf)
          | ((with_reducible refine forceL_rfv (by assumption) ?_); conv => whnf)
          | ((with_reducible refine forceNm_of ?_); conv => whnf)
          | ((with_reducible refine needm_of (fv_lenL (by assumption) (by assumption)) ?_); conv => whnf)
          | ((with_reducible refine optm_var (fv_strL (by assumption) (by assumption)) (fun s hs => ?_)); conv => whnf)
          | ((with_reducible refine forceA_of ?_); conv => whnf)
          | ((with_reducible refine forceL_pl (by assumption) ?_); conv => whnf)
          | ((with_reducible refine forceL_rpl (by assumption) ?_); conv => whnf)
          | ((refine ext_from (by rfl) from_n from_f ?_); conv => whnf)
          | fail)
        exact ⟨len - (i + 1), by omega, Into.weak [0, 1, 2, 3] [(0, .a (.rslc p len cap)), (1, .a (.int .i64 fails)), (5, .a (.ptr 1 0)), (7, .a (.ptr 3 0)), (9, .a (.int .i64 ((i + 1 : Nat) : Int)))] [.cells cs' 73 false, .cells [.slc 0 0 3 3] 68 false, .cells ds' 73 false, .cells [.slc 2 0 3 3] 68 false] ⟨i + 1, y, cs', ds', by omega, rfl, hcs', hds', hg', hd', rfl, rfl⟩ ⟨rfl, rfl, rfl, rfl, congrArg (fun z => some (V.a (.int .i64 z))) hw, trivial⟩ ⟨ren_pl hp' _ _ _, rfl, ren_pl hq' _ _ _, rfl, trivial⟩ (by simp [nodupb, baseb, Ob.okb, frmOk, V.okb, A.okb, hp'.2, hq'.2] <;> decide)⟩
    · clear h hG hds
      conv => whnf
      repeat' (first
        | ((with_reducible refine regx_of ?_ ?_); (· decide +kernel); conv => whnf)
        | ((with_reducible refine growx_pre ?_ ?_); (· exact ⟨_, rfl⟩); conv => whnf)
        | ((with_reducible refine needm_of ?_ ?_); (· first | assumption | exact decide_eq_true (by omega) | exact mkOK_of (by decide) | decide +kernel | (refine decide_eq_true ?_; simp (disch := omega) only [i64w]; omega)); conv => whnf)
        | ((with_reducible refine condm_pos ?_ ?_); (· assumption); conv => whnf)
        | ((with_reducible refine condm_neg ?_ ?_); (· assumption); conv => whnf)
        | ((with_reducible refine forceL_fv (by assumption) ?_); conv => whnf)
        | ((with_reducible refine forceL_rfv (by assumption) ?_); conv => whnf)
        | ((with_reducible refine forceNm_of ?_); conv => whnf)
        | ((with_reducible refine needm_of (fv_lenL (by assumption) (by assumption)) ?_); conv => whnf)
        | ((with_reducible refine optm_var (fv_strL (by assumption) (by assumption)) (fun s hs => ?_)); conv => whnf)
        | ((with_reducible refine forceA_of ?_); conv => whnf)
        | ((with_reducible refine forceL_pl (by assumption) ?_); conv => whnf)
        | ((with_reducible refine forceL_rpl (by assumption) ?_); conv => whnf)
        | ((refine ext_from (by rfl) from_n from_f ?_); conv => whnf)
        | fail)
      refine Go.Eng.Fn.frame [0, 1] (by rfl) (by exact ⟨ren_pl hp _ _ _, rfl, trivial⟩) (by simp [nodupb, V.okb, A.okb, Ob.okb, hp.2] <;> decide) (wait24g [p0, x, p0] cs 3 false hcs rfl (by decide) (goods hg) (dbls hd0 (by decide)) 2 (fun h => absurd ⟨by decide, by decide⟩ h) (fun k x' hx e q hqe => ?_))
      obtain ⟨rfl, rfl⟩ := three hx e
      replace hqe : q = wt x 0 := by rw [hqe, hd0]; rfl
      clear hx e
      conv => whnf
      repeat' (first
        | ((with_reducible refine regx_of ?_ ?_); (· decide +kernel); conv => whnf)
        | ((with_reducible refine growx_pre ?_ ?_); (· exact ⟨_, rfl⟩); conv => whnf)
        | ((with_reducible refine needm_of ?_ ?_); (· first | assumption | exact decide_eq_true (by omega) | exact mkOK_of (by decide) | decide +kernel | (refine decide_eq_true ?_; simp (disch := omega) only [i64w]; omega)); conv => whnf)
        | ((with_reducible refine condm_pos ?_ ?_); (· assumption); conv => whnf)
        | ((with_reducible refine condm_neg ?_ ?_); (· assumption); conv => whnf)
        | ((with_reducible refine forceL_fv (by assumption) ?_); conv => whnf)
        | ((with_reducible refine forceL_rfv (by assumption) ?_); conv => whnf)
        | ((with_reducible refine forceNm_of ?_); conv => whnf)
        | ((with_reducible refine needm_of (fv_lenL (by assumption) (by assumption)) ?_); conv => whnf)
        | ((with_reducible refine optm_var (fv_strL (by assumption) (by assumption)) (fun s hs => ?_)); conv => whnf)
        | ((with_reducible refine forceA_of ?_); conv => whnf)
        | ((with_reducible refine forceL_pl (by assumption) ?_); conv => whnf)
        | ((with_reducible refine forceL_rpl (by assumption) ?_); conv => whnf)
        | ((refine ext_from (by rfl) from_n from_f ?_); conv => whnf)
        | fail)
      refine loopx_of (fun m F H => ∃ (i q : Nat) (x : Pt) (cs : List A), i ≤ 30 ∧ m = 30 - i ∧ cs = prow [p0, x, p0] ∧ Good x ∧ x.dbl = ((min i 10 : Nat) : Int) ∧ q = wt x (min i 10) ∧ F = [(1, .a (.int .i64 fails)), (5, .a (.ptr 1 0)), (13, .a (.int .i64 q)), (14, .a (.int .i64 i))] ∧ H = [.cells cs 73 false, .cells [.slc 0 0 3 3] 68 false]) 30 ?_ ?_
      · exact Into.weak [0, 1] [(1, .a (.int .i64 fails)), (5, .a (.ptr 1 0)), (13, .a (.int .i64 q)), (14, .a (.int .i64 (0 : Nat)))] [.cells cs 73 false, .cells [.slc 0 0 3 3] 68 false] ⟨0, q, x, cs, by omega, rfl, hcs, hg, hd0, hqe, rfl, rfl⟩ ⟨rfl, rfl, rfl, rfl, trivial⟩ ⟨ren_pl hp _ _ _, rfl, trivial⟩ (by simp [nodupb, baseb, Ob.okb, frmOk, V.okb, A.okb, hp.2] <;> decide)
      · clear hqe q hd0 hg hcs hp x
        rintro m F H ⟨i, q, x, cs, hi, rfl, hcs, hg, hd, hqe, rfl, rfl⟩
        have hp := Pl.prow hcs
        have hq1 := wt_in hg (min i 10)
        rw [← hqe] at hq1
        conv => whnf
        repeat' (first
          | ((with_reducible refine regx_of ?_ ?_); (· decide +kernel); conv => whnf)
          | ((with_reducible refine growx_pre ?_ ?_); (· exact ⟨_, rfl⟩); conv => whnf)
          | ((with_reducible refine needm_of ?_ ?_); (· first | assumption | exact decide_eq_true (by omega) | exact mkOK_of (by decide) | decide +kernel | (refine decide_eq_true ?_; simp (disch := omega) only [i64w]; omega)); conv => whnf)
          | ((with_reducible refine condm_pos ?_ ?_); (· assumption); conv => whnf)
          | ((with_reducible refine condm_neg ?_ ?_); (· assumption); conv => whnf)
          | ((with_reducible refine forceL_fv (by assumption) ?_); conv => whnf)
          | ((with_reducible refine forceL_rfv (by assumption) ?_); conv => whnf)
          | ((with_reducible refine forceNm_of ?_); conv => whnf)
          | ((with_reducible refine needm_of (fv_lenL (by assumption) (by assumption)) ?_); conv => whnf)
          | ((with_reducible refine optm_var (fv_strL (by assumption) (by assumption)) (fun s hs => ?_)); conv => whnf)
          | ((with_reducible refine forceA_of ?_); conv => whnf)
          | ((with_reducible refine forceL_pl (by assumption) ?_); conv => whnf)
          | ((with_reducible refine forceL_rpl (by assumption) ?_); conv => whnf)
          | ((refine ext_from (by rfl) from_n from_f ?_); conv => whnf)
          | fail)
        refine condm_of (fun h => ?_) (fun h => ?_)
        ·
          conv => whnf
          repeat' (first
            | ((with_reducible refine regx_of ?_ ?_); (· decide +kernel); conv => whnf)
            | ((with_reducible refine growx_pre ?_ ?_); (· exact ⟨_, rfl⟩); conv => whnf)
            | ((with_reducible refine needm_of ?_ ?_); (· first | assumption | exact decide_eq_true (by omega) | exact mkOK_of (by decide) | decide +kernel | (refine decide_eq_true ?_; simp (disch := omega) only [i64w]; omega)); conv => whnf)
            | ((with_reducible refine condm_pos ?_ ?_); (· assumption); conv => whnf)
            | ((with_reducible refine condm_neg ?_ ?_); (· assumption); conv => whnf)
            | ((with_reducible refine forceL_fv (by assumption) ?_); conv => whnf)
            | ((with_reducible refine forceL_rfv (by assumption) ?_); conv => whnf)
            | ((with_reducible refine forceNm_of ?_); conv => whnf)
            | ((with_reducible refine needm_of (fv_lenL (by assumption) (by assumption)) ?_); conv => whnf)
            | ((with_reducible refine optm_var (fv_strL (by assumption) (by assumption)) (fun s hs => ?_)); conv => whnf)
            | ((with_reducible refine forceA_of ?_); conv => whnf)
            | ((with_reducible refine forceL_pl (by assumption) ?_); conv => whnf)
            | ((with_reducible refine forceL_rpl (by assumption) ?_); conv => whnf)
            | ((refine ext_from (by rfl) from_n from_f ?_); conv => whnf)
            | fail)
          refine condm_of (fun h2 => ?_) (fun h2 => ?_)
          · have hi30 : i < 30 := by have := of_decide_eq_true h2; omega
            have hw : IntKind.i64.wrap (↑i + 1) = ((i + 1 : Nat) : Int) := by rw [i64w (by omega) (by omega)]; rfl
            conv => whnf
            repeat' (first
              | ((with_reducible refine regx_of ?_ ?_); (· decide +kernel); conv => whnf)
              | ((with_reducible refine growx_pre ?_ ?_); (· exact ⟨_, rfl⟩); conv => whnf)
              | ((with_reducible refine needm_of ?_ ?_); (· first | assumption | exact decide_eq_true (by omega) | exact mkOK_of (by decide) | decide +kernel | (refine decide_eq_true ?_; simp (disch := omega) only [i64w]; omega)); conv => whnf)
              | ((with_reducible refine condm_pos ?_ ?_); (· assumption); conv => whnf)
              | ((with_reducible refine condm_neg ?_ ?_); (· assumption); conv => whnf)
              | ((with_reducible refine forceL_fv (by assumption) ?_); conv => whnf)
              | ((with_reducible refine forceL_rfv (by assumption) ?_); conv => whnf)
              | ((with_reducible refine forceNm_of ?_); conv => whnf)
              | ((with_reducible refine needm_of (fv_lenL (by assumption) (by assumption)) ?_); conv => whnf)
              | ((with_reducible refine optm_var (fv_strL (by assumption) (by assumption)) (fun s hs => ?_)); conv => whnf)
              | ((with_reducible refine forceA_of ?_); conv => whnf)
              | ((with_reducible refine forceL_pl (by assumption) ?_); conv => whnf)
              | ((with_reducible refine forceL_rpl (by assumption) ?_); conv => whnf)
              | ((refine ext_from (by rfl) from_n from_f ?_); conv => whnf)
              | fail)
            refine Go.Eng.Fn.frame [0, 1] (by rfl) (by exact ⟨ren_pl hp _ _ _, rfl, trivial⟩) (by simp [nodupb, V.okb, A.okb, Ob.okb, hp.2] <;> decide) (failed23 [p0, x, p0] cs 3 false hcs rfl (by decide) (dbls hd (by omega)) 2 (fun h => absurd ⟨by decide, by decide⟩ h) (fun k x' hx e cs1 hcs1 => ?_))
            obtain ⟨rfl, rfl⟩ := three hx e
            clear hx e
            obtain ⟨x1, hx1⟩ : ∃ x1 : Pt, x1 = { x with dbl := min (x.dbl + 1) 10 } := ⟨_, rfl⟩
            replace hcs1 : cs1 = prow [p0, x1, p0] := by rw [hcs1, hx1]; rfl
            have hp1 := Pl.prow hcs1
            have hg1 : Good x1 := by rw [hx1]; exact hg.dbl _
            have hd1 : x1.dbl = ((min (i + 1) 10 : Nat) : Int) := by rw [hx1]; show min (x.dbl + 1) 10 = _; omega
            have hwt : ∀ k, wt x1 k = wt x k := fun k => by rw [hx1]; exact wt_dbl x _ k
            conv => whnf
            repeat' (first
              | ((with_reducible refine regx_of ?_ ?_); (· decide +kernel); conv => whnf)
              | ((with_reducible refine growx_pre ?_ ?_); (· exact ⟨_, rfl⟩); conv => whnf)
              | ((with_reducible refine needm_of ?_ ?_); (· first | assumption | exact decide_eq_true (by omega) | exact mkOK_of (by decide) | decide +kernel | (refine decide_eq_true ?_; simp (disch := omega) only [i64w]; omega)); conv => whnf)
              | ((with_reducible refine condm_pos ?_ ?_); (· assumption); conv => whnf)
              | ((with_reducible refine condm_neg ?_ ?_); (· assumption); conv => whnf)
              | ((with_reducible refine forceL_fv (by assumption) ?_); conv => whnf)
              | ((with_reducible refine forceL_rfv (by assumption) ?_); conv => whnf)
              | ((with_reducible refine forceNm_of ?_); conv => whnf)
              | ((with_reducible refine needm_of (fv_lenL (by assumption) (by assumption)) ?_); conv => whnf)
              | ((with_reducible refine optm_var (fv_strL (by assumption) (by assumption)) (fun s hs => ?_)); conv => whnf)
              | ((with_reducible refine forceA_of ?_); conv => whnf)
              | ((with_reducible refine forceL_pl (by assumption) ?_); conv => whnf)
              | ((with_reducible refine forceL_rpl (by assumption) ?_); conv => whnf)
              | ((refine ext_from (by rfl) from_n from_f ?_); conv => whnf)
              | fail)
            refine Go.Eng.Fn.frame [0, 1] (by rfl) (by exact ⟨ren_pl hp1 _ _ _, rfl, trivial⟩) (by simp [nodupb, V.okb, A.okb, Ob.okb, hp1.2] <;> decide) (wait24g [p0, x1, p0] cs1 3 false hcs1 rfl (by decide) (goods hg1) (dbls hd1 (by omega)) 2 (fun h => absurd ⟨by decide, by decide⟩ h) (fun k x' hx e n hne => ?_))
            obtain ⟨rfl, rfl⟩ := three hx e
            clear hx e
            replace hne : n = wt x1 (min (i + 1) 10) := by rw [hne, hd1]; rfl
            have hn1 := wt_in hg1 (min (i + 1) 10)
            rw [← hne] at hn1
            have hqn : q ≤ n ∧ (10 ≤ i → n = q) := by
              rw [hne, hqe, hwt]
              by_cases h10 : i < 10
              · rw [Nat.min_eq_left (by omega), Nat.min_eq_left (by omega)]
                exact ⟨wt_mono hg i, fun h => by omega⟩
              · rw [Nat.min_eq_right (by omega), Nat.min_eq_right (by omega)]
                exact ⟨Nat.le_refl _, fun _ => rfl⟩
            have l1 : decide ((n : Int) < (q : Int)) = false := decide_eq_false (by omega)
            have l2 : decide ((n : Int) < 1) = false := decide_eq_false (by omega)
            have l3 : decide ((n : Int) > 1000) = false := decide_eq_false (by omega)
            conv => whnf
            repeat' (first
              | ((with_reducible refine regx_of ?_ ?_); (· decide +kernel); conv => whnf)
              | ((with_reducible refine growx_pre ?_ ?_); (· exact ⟨_, rfl⟩); conv => whnf)
              | ((with_reducible refine needm_of ?_ ?_); (· first | assumption | exact decide_eq_true (by omega) | exact mkOK_of (by decide) | decide +kernel | (refine decide_eq_true ?_; simp (disch := omega) only [i64w]; omega)); conv => whnf)
              | ((with_reducible refine condm_pos ?_ ?_); (· assumption); conv => whnf)
              | ((with_reducible refine condm_neg ?_ ?_); (· assumption); conv => whnf)
              | ((with_reducible refine forceL_fv (by assumption) ?_); conv => whnf)
              | ((with_reducible refine forceL_rfv (by assumption) ?_); conv => whnf)
              | ((with_reducible refine forceNm_of ?_); conv => whnf)
              | ((with_reducible refine needm_of (fv_lenL (by assumption) (by assumption)) ?_); conv => whnf)
              | ((with_reducible refine optm_var (fv_strL (by assumption) (by assumption)) (fun s hs => ?_)); conv => whnf)
              | ((with_reducible refine forceA_of ?_); conv => whnf)
              | ((with_reducible refine forceL_pl (by assumption) ?_); conv => whnf)
              | ((with_reducible refine forceL_rpl (by assumption) ?_); conv => whnf)
              | ((refine ext_from (by rfl) from_n from_f ?_); conv => whnf)
              | fail)
            refine condm_of (fun h10 => ?_) (fun h10 => ?_)
            · have h10' : 10 ≤ i := by have := of_decide_eq_true h10; omega
              have l4 : ((n : Int) != (q : Int)) = false := by rw [hqn.2 h10']; simp
              conv => whnf
              repeat' (first
                | ((with_reducible refine regx_of ?_ ?_); (· decide +kernel); conv => whnf)
                | ((with_reducible refine growx_pre ?_ ?_); (· exact ⟨_, rfl⟩); conv => whnf)
                | ((with_reducible refine needm_of ?_ ?_); (· first | assumption | exact decide_eq_true (by omega) | exact mkOK_of (by decide) | decide +kernel | (refine decide_eq_true ?_; simp (disch := omega) only [i64w]; omega)); conv => whnf)
                | ((with_reducible refine condm_pos ?_ ?_); (· assumption); conv => whnf)
                | ((with_reducible refine condm_neg ?_ ?_); (· assumption); conv => whnf)
                | ((with_reducible refine forceL_fv (by assumption) ?_); conv => whnf)
                | ((with_reducible refine forceL_rfv (by assumption) ?_); conv => whnf)
                | ((with_reducible refine forceNm_of ?_); conv => whnf)
                | ((with_reducible refine needm_of (fv_lenL (by assumption) (by assumption)) ?_); conv => whnf)
                | ((with_reducible refine optm_var (fv_strL (by assumption) (by assumption)) (fun s hs => ?_)); conv => whnf)
                | ((with_reducible refine forceA_of ?_); conv => whnf)
                | ((with_reducible refine forceL_pl (by assumption) ?_); conv => whnf)
                | ((with_reducible refine forceL_rpl (by assumption) ?_); conv => whnf)
                | ((refine ext_from (by rfl) from_n from_f ?_); conv => whnf)
                | fail)
              exact ⟨30 - (i + 1), by omega, Into.weak [0, 1] [(1, .a (.int .i64 fails)), (5, .a (.ptr 1 0)), (13, .a (.int .i64 n)), (14, .a (.int .i64 ((i + 1 : Nat) : Int)))] [.cells cs1 73 false, .cells [.slc 0 0 3 3] 68 false] ⟨i + 1, n, x1, cs1, by omega, rfl, hcs1, hg1, hd1, hne, rfl, rfl⟩ ⟨rfl, rfl, rfl, congrArg (fun z => some (V.a (.int .i64 z))) hw, trivial⟩ ⟨ren_pl hp1 _ _ _, rfl, trivial⟩ (by simp [nodupb, baseb, Ob.okb, frmOk, V.okb, A.okb, hp1.2] <;> decide)⟩
            ·
              conv => whnf
              repeat' (first
                | ((with_reducible refine regx_of ?_ ?_); (· decide +kernel); conv => whnf)
                | ((with_reducible refine growx_pre ?_ ?_); (· exact ⟨_, rfl⟩); conv => whnf)
                | ((with_reducible refine needm_of ?_ ?_); (· first | assumption | exact decide_eq_true (by omega) | exact mkOK_of (by decide) | decide +kernel | (refine decide_eq_true ?_; simp (disch := omega) only [i64w]; omega)); conv => whnf)
                | ((with_reducible refine condm_pos ?_ ?_); (· assumption); conv => whnf)
                | ((with_reducible refine condm_neg ?_ ?_); (· assumption); conv => whnf)
                | ((with_reducible refine forceL_fv (by assumption) ?_); conv => whnf)
                | ((with_reducible refine forceL_rfv (by assumption) ?_); conv => whnf)
                | ((with_reducible refine forceNm_of ?_); conv => whnf)
                | ((with_reducible refine needm_of (fv_lenL (by assumption) (by assumption)) ?_); conv => whnf)
                | ((with_reducible refine optm_var (fv_strL (by assumption) (by assumption)) (fun s hs => ?_)); conv => whnf)
                | ((with_reducible refine forceA_of ?_); conv => whnf)
                | ((with_reducible refine forceL_pl (by assumption) ?_); conv => whnf)
                | ((with_reducible refine forceL_rpl (by assumption) ?_); conv => whnf)
                | ((refine ext_from (by rfl) from_n from_f ?_); conv => whnf)
                | fail)
              exact ⟨30 - (i + 1), by omega, Into.weak [0, 1] [(1, .a (.int .i64 fails)), (5, .a (.ptr 1 0)), (13, .a (.int .i64 n)), (14, .a (.int .i64 ((i + 1 : Nat) : Int)))] [.cells cs1 73 false, .cells [.slc 0 0 3 3] 68 false] ⟨i + 1, n, x1, cs1, by omega, rfl, hcs1, hg1, hd1, hne, rfl, rfl⟩ ⟨rfl, rfl, rfl, congrArg (fun z => some (V.a (.int .i64 z))) hw, trivial⟩ ⟨ren_pl hp1 _ _ _, rfl, trivial⟩ (by simp [nodupb, baseb, Ob.okb, frmOk, V.okb, A.okb, hp1.2] <;> decide)⟩
          ·
            conv => whnf
            repeat' (first
              | ((with_reducible refine regx_of ?_ ?_); (· decide +kernel); conv => whnf)
              | ((with_reducible refine growx_pre ?_ ?_); (· exact ⟨_, rfl⟩); conv => whnf)
              | ((with_reducible refine needm_of ?_ ?_); (· first | assumption | exact decide_eq_true (by omega) | exact mkOK_of (by decide) | decide +kernel | (refine decide_eq_true ?_; simp (disch := omega) only [i64w]; omega)); conv => whnf)
              | ((with_reducible refine condm_pos ?_ ?_); (· assumption); conv => whnf)
              | ((with_reducible refine condm_neg ?_ ?_); (· assumption); conv => whnf)
              | ((with_reducible refine forceL_fv (by assumption) ?_); conv => whnf)
              | ((with_reducible refine forceL_rfv (by assumption) ?_); conv => whnf)
              | ((with_reducible refine forceNm_of ?_); conv => whnf)
              | ((with_reducible refine needm_of (fv_lenL (by assumption) (by assumption)) ?_); conv => whnf)
              | ((with_reducible refine optm_var (fv_strL (by assumption) (by assumption)) (fun s hs => ?_)); conv => whnf)
              | ((with_reducible refine forceA_of ?_); conv => whnf)
              | ((with_reducible refine forceL_pl (by assumption) ?_); conv => whnf)
              | ((with_reducible refine forceL_rpl (by assumption) ?_); conv => whnf)
              | ((refine ext_from (by rfl) from_n from_f ?_); conv => whnf)
              | fail)
            refine Go.Eng.Fn.frame [0, 1] (by rfl) (by exact ⟨ren_pl hp _ _ _, rfl, trivial⟩) (by simp [nodupb, V.okb, A.okb, Ob.okb, hp.2] <;> decide) (wait24g [p0, x, p0] cs 3 false hcs rfl (by decide) (goods hg) (dbls hd (by omega)) 1 (fun h => absurd ⟨by decide, by decide⟩ h) (fun k x' hx e q1 hq1 => ?_))
            obtain rfl : k = 0 := by omega
            obtain rfl : p0 = x' := by simpa using hx
            obtain rfl : q1 = 8 := by rw [hq1]; exact wt_p0
            clear hx e hq1
            conv => whnf
            repeat' (first
              | ((with_reducible refine regx_of ?_ ?_); (· decide +kernel); conv => whnf)
              | ((with_reducible refine growx_pre ?_ ?_); (· exact ⟨_, rfl⟩); conv => whnf)
              | ((with_reducible refine needm_of ?_ ?_); (· first | assumption | exact decide_eq_true (by omega) | exact mkOK_of (by decide) | decide +kernel | (refine decide_eq_true ?_; simp (disch := omega) only [i64w]; omega)); conv => whnf)
              | ((with_reducible refine condm_pos ?_ ?_); (· assumption); conv => whnf)
              | ((with_reducible refine condm_neg ?_ ?_); (· assumption); conv => whnf)
              | ((with_reducible refine forceL_fv (by assumption) ?_); conv => whnf)
              | ((with_reducible refine forceL_rfv (by assumption) ?_); conv => whnf)
              | ((with_reducible refine forceNm_of ?_); conv => whnf)
              | ((with_reducible refine needm_of (fv_lenL (by assumption) (by assumption)) ?_); conv => whnf)
              | ((with_reducible refine optm_var (fv_strL (by assumption) (by assumption)) (fun s hs => ?_)); conv => whnf)
              | ((with_reducible refine forceA_of ?_); conv => whnf)
              | ((with_reducible refine forceL_pl (by assumption) ?_); conv => whnf)
              | ((with_reducible refine forceL_rpl (by assumption) ?_); conv => whnf)
              | ((refine ext_from (by rfl) from_n from_f ?_); conv => whnf)
              | fail)
            refine Go.Eng.Fn.frame [0, 1] (by rfl) (by exact ⟨ren_pl hp _ _ _, rfl, trivial⟩) (by simp [nodupb, V.okb, A.okb, Ob.okb, hp.2] <;> decide) (wait24g [p0, x, p0] cs 3 false hcs rfl (by decide) (goods hg) (dbls hd (by omega)) 3 (fun h => absurd ⟨by decide, by decide⟩ h) (fun k x' hx e q1 hq1 => ?_))
            obtain rfl : k = 2 := by omega
            obtain rfl : p0 = x' := by simpa using hx
            obtain rfl : q1 = 8 := by rw [hq1]; exact wt_p0
            clear hx e hq1
            conv => whnf
            repeat' (first
              | ((with_reducible refine regx_of ?_ ?_); (· decide +kernel); conv => whnf)
              | ((with_reducible refine growx_pre ?_ ?_); (· exact ⟨_, rfl⟩); conv => whnf)
              | ((with_reducible refine needm_of ?_ ?_); (· first | assumption | exact decide_eq_true (by omega) | exact mkOK_of (by decide) | decide +kernel | (refine decide_eq_true ?_; simp (disch := omega) only [i64w]; omega)); conv => whnf)
              | ((with_reducible refine condm_pos ?_ ?_); (· assumption); conv => whnf)
              | ((with_reducible refine condm_neg ?_ ?_); (· assumption); conv => whnf)
              | ((with_reducible refine forceL_fv (by assumption) ?_); conv => whnf)
              | ((with_reducible refine forceL_rfv (by assumption) ?_); conv => whnf)
              | ((with_reducible refine forceNm_of ?_); conv => whnf)
              | ((with_reducible refine needm_of (fv_lenL (by assumption) (by assumption)) ?_); conv => whnf)
              | ((with_reducible refine optm_var (fv_strL (by assumption) (by assumption)) (fun s hs => ?_)); conv => whnf)
              | ((with_reducible refine forceA_of ?_); conv => whnf)
              | ((with_reducible refine forceL_pl (by assumption) ?_); conv => whnf)
              | ((with_reducible refine forceL_rpl (by assumption) ?_); conv => whnf)
              | ((refine ext_from (by rfl) from_n from_f ?_); conv => whnf)
              | fail)
            refine Go.Eng.Fn.frame [0, 1] (by rfl) (by exact ⟨ren_pl hp _ _ _, rfl, trivial⟩) (by simp [nodupb, V.okb, A.okb, Ob.okb, hp.2] <;> decide) (wait24g [p0, x, p0] cs 3 false hcs rfl (by decide) (goods hg) (dbls hd (by omega)) 4 (fun _ => ?_) (fun k x' hx e q1 hq1 => absurd hx (by have h3 : k = 3 := (by omega); subst h3; simp)))
            conv => whnf
            repeat' (first
              | ((with_reducible refine regx_of ?_ ?_); (· decide +kernel); conv => whnf)
              | ((with_reducible refine growx_pre ?_ ?_); (· exact ⟨_, rfl⟩); conv => whnf)
              | ((with_reducible refine needm_of ?_ ?_); (· first | assumption | exact decide_eq_true (by omega) | exact mkOK_of (by decide) | decide +kernel | (refine decide_eq_true ?_; simp (disch := omega) only [i64w]; omega)); conv => whnf)
              | ((with_reducible refine condm_pos ?_ ?_); (· assumption); conv => whnf)
              | ((with_reducible refine condm_neg ?_ ?_); (· assumption); conv => whnf)
              | ((with_reducible refine forceL_fv (by assumption) ?_); conv => whnf)
              | ((with_reducible refine forceL_rfv (by assumption) ?_); conv => whnf)
              | ((with_reducible refine forceNm_of ?_); conv => whnf)
              | ((with_reducible refine needm_of (fv_lenL (by assumption) (by assumption)) ?_); conv => whnf)
              | ((with_reducible refine optm_var (fv_strL (by assumption) (by assumption)) (fun s hs => ?_)); conv => whnf)
              | ((with_reducible refine forceA_of ?_); conv => whnf)
              | ((with_reducible refine forceL_pl (by assumption) ?_); conv => whnf)
              | ((with_reducible refine forceL_rpl (by assumption) ?_); conv => whnf)
              | ((refine ext_from (by rfl) from_n from_f ?_); conv => whnf)
              | fail)
            refine Go.Eng.Fn.frame [0, 1] (by rfl) (by exact ⟨ren_pl hp _ _ _, rfl, trivial⟩) (by simp [nodupb, V.okb, A.okb, Ob.okb, hp.2] <;> decide) (wait24g [p0, x, p0] cs 3 false hcs rfl (by decide) (goods hg) (dbls hd (by omega)) 0 (fun _ => ?_) (fun k x' hx e q1 hq1 => by omega))
            have l1 : decide ((q : Int) ≥ 1) = true := decide_eq_true (by omega)
            have l2 : decide ((q : Int) ≤ 1000) = true := decide_eq_true (by omega)
            conv => whnf
            repeat' (first
              | ((with_reducible refine regx_of ?_ ?_); (· decide +kernel); conv => whnf)
              | ((with_reducible refine growx_pre ?_ ?_); (· exact ⟨_, rfl⟩); conv => whnf)
              | ((with_reducible refine needm_of ?_ ?_); (· first | assumption | exact decide_eq_true (by omega) | exact mkOK_of (by decide) | decide +kernel | (refine decide_eq_true ?_; simp (disch := omega) only [i64w]; omega)); conv => whnf)
              | ((with_reducible refine condm_pos ?_ ?_); (· assumption); conv => whnf)
              | ((with_reducible refine condm_neg ?_ ?_); (· assumption); conv => whnf)
              | ((with_reducible refine forceL_fv (by assumption) ?_); conv => whnf)
              | ((with_reducible refine forceL_rfv (by assumption) ?_); conv => whnf)
              | ((with_reducible refine forceNm_of ?_); conv => whnf)
              | ((with_reducible refine needm_of (fv_lenL (by assumption) (by assumption)) ?_); conv => whnf)
              | ((with_reducible refine optm_var (fv_strL (by assumption) (by assumption)) (fun s hs => ?_)); conv => whnf)
              | ((with_reducible refine forceA_of ?_); conv => whnf)
              | ((with_reducible refine forceL_pl (by assumption) ?_); conv => whnf)
              | ((with_reducible refine forceL_rpl (by assumption) ?_); conv => whnf)
              | ((refine ext_from (by rfl) from_n from_f ?_); conv => whnf)
              | fail)
            exact congrArg (fun b => V.a (.bool b)) l2
        ·
          conv => whnf
          repeat' (first
            | ((with_reducible refine regx_of ?_ ?_); (· decide +kernel); conv => whnf)
            | ((with_reducible refine growx_pre ?_ ?_); (· exact ⟨_, rfl⟩); conv => whnf)
            | ((with_reducible refine needm_of ?_ ?_); (· first | assumption | exact decide_eq_true (by omega) | exact mkOK_of (by decide) | decide +kernel | (refine decide_eq_true ?_; simp (disch := omega) only [i64w]; omega)); conv => whnf)
            | ((with_reducible refine condm_pos ?_ ?_); (· assumption); conv => whnf)
            | ((with_reducible refine condm_neg ?_ ?_); (· assumption); conv => whnf)
            | ((with_reducible refine forceL_fv (by assumption) ?_); conv => whnf)
            | ((with_reducible refine forceL_rfv (by assumption) ?_); conv => whnf)
            | ((with_reducible refine forceNm_of ?_); conv => whnf)
            | ((with_reducible refine needm_of (fv_lenL (by assumption) (by assumption)) ?_); conv => whnf)
            | ((with_reducible refine optm_var (fv_strL (by assumption) (by assumption)) (fun s hs => ?_)); conv => whnf)
            | ((with_reducible refine forceA_of ?_); conv => whnf)
            | ((with_reducible refine forceL_pl (by assumption) ?_); conv => whnf)
            | ((with_reducible refine forceL_rpl (by assumption) ?_); conv => whnf)
            | ((refine ext_from (by rfl) from_n from_f ?_); conv => whnf)
            | fail)
          refine Go.Eng.Fn.frame [0, 1] (by rfl) (by exact ⟨ren_pl hp _ _ _, rfl, trivial⟩) (by simp [nodupb, V.okb, A.okb, Ob.okb, hp.2] <;> decide) (wait24g [p0, x, p0] cs 3 false hcs rfl (by decide) (goods hg) (dbls hd (by omega)) 1 (fun h => absurd ⟨by decide, by decide⟩ h) (fun k x' hx e q1 hq1 => ?_))
          obtain rfl : k = 0 := by omega
          obtain rfl : p0 = x' := by simpa using hx
          obtain rfl : q1 = 8 := by rw [hq1]; exact wt_p0
          clear hx e hq1
          conv => whnf
          repeat' (first
            | ((with_reducible refine regx_of ?_ ?_); (· decide +kernel); conv => whnf)
            | ((with_reducible refine growx_pre ?_ ?_); (· exact ⟨_, rfl⟩); conv => whnf)
            | ((with_reducible refine needm_of ?_ ?_); (· first | assumption | exact decide_eq_true (by omega) | exact mkOK_of (by decide) | decide +kernel | (refine decide_eq_true ?_; simp (disch := omega) only [i64w]; omega)); conv => whnf)
            | ((with_reducible refine condm_pos ?_ ?_); (· assumption); conv => whnf)
            | ((with_reducible refine condm_neg ?_ ?_); (· assumption); conv => whnf)
            | ((with_reducible refine forceL_fv (by assumption) ?_); conv => whnf)
            | ((with_reducible refine forceL_rfv (by assumption) ?_); conv => whnf)
            | ((with_reducible refine forceNm_of ?_); conv => whnf)
            | ((with_reducible refine needm_of (fv_lenL (by assumption) (by assumption)) ?_); conv => whnf)
            | ((with_reducible refine optm_var (fv_strL (by assumption) (by assumption)) (fun s hs => ?_)); conv => whnf)
            | ((with_reducible refine forceA_of ?_); conv => whnf)
            | ((with_reducible refine forceL_pl (by assumption) ?_); conv => whnf)
            | ((with_reducible refine forceL_rpl (by assumption) ?_); conv => whnf)
            | ((refine ext_from (by rfl) from_n from_f ?_); conv => whnf)
            | fail)
          refine Go.Eng.Fn.frame [0, 1] (by rfl) (by exact ⟨ren_pl hp _ _ _, rfl, trivial⟩) (by simp [nodupb, V.okb, A.okb, Ob.okb, hp.2] <;> decide) (wait24g [p0, x, p0] cs 3 false hcs rfl (by decide) (goods hg) (dbls hd (by omega)) 3 (fun h => absurd ⟨by decide, by decide⟩ h) (fun k x' hx e q1 hq1 => ?_))
          obtain rfl : k = 2 := by omega
          obtain rfl : p0 = x' := by simpa using hx
          obtain rfl : q1 = 8 := by rw [hq1]; exact wt_p0
          clear hx e hq1
          conv => whnf
          repeat' (first
            | ((with_reducible refine regx_of ?_ ?_); (· decide +kernel); conv => whnf)
            | ((with_reducible refine growx_pre ?_ ?_); (· exact ⟨_, rfl⟩); conv => whnf)
            | ((with_reducible refine needm_of ?_ ?_); (· first | assumption | exact decide_eq_true (by omega) | exact mkOK_of (by decide) | decide +kernel | (refine decide_eq_true ?_; simp (disch := omega) only [i64w]; omega)); conv => whnf)
            | ((with_reducible refine condm_pos ?_ ?_); (· assumption); conv => whnf)
            | ((with_reducible refine condm_neg ?_ ?_); (· assumption); conv => whnf)
            | ((with_reducible refine forceL_fv (by assumption) ?_); conv => whnf)
            | ((with_reducible refine forceL_rfv (by assumption) ?_); conv => whnf)
            | ((with_reducible refine forceNm_of ?_); conv => whnf)
            | ((with_reducible refine needm_of (fv_lenL (by assumption) (by assumption)) ?_); conv => whnf)
            | ((with_reducible refine optm_var (fv_strL (by assumption) (by assumption)) (fun s hs => ?_)); conv => whnf)
            | ((with_reducible refine forceA_of ?_); conv => whnf)
            | ((with_reducible refine forceL_pl (by assumption) ?_); conv => whnf)
            | ((with_reducible refine forceL_rpl (by assumption) ?_); conv => whnf)
            | ((refine ext_from (by rfl) from_n from_f ?_); conv => whnf)
            | fail)
          refine Go.Eng.Fn.frame [0, 1] (by rfl) (by exact ⟨ren_pl hp _ _ _, rfl, trivial⟩) (by simp [nodupb, V.okb, A.okb, Ob.okb, hp.2] <;> decide) (wait24g [p0, x, p0] cs 3 false hcs rfl (by decide) (goods hg) (dbls hd (by omega)) 4 (fun _ => ?_) (fun k x' hx e q1 hq1 => absurd hx (by have h3 : k = 3 := (by omega); subst h3; simp)))
          conv => whnf
          repeat' (first
            | ((with_reducible refine regx_of ?_ ?_); (· decide +kernel); conv => whnf)
            | ((with_reducible refine growx_pre ?_ ?_); (· exact ⟨_, rfl⟩); conv => whnf)
            | ((with_reducible refine needm_of ?_ ?_); (· first | assumption | exact decide_eq_true (by omega) | exact mkOK_of (by decide) | decide +kernel | (refine decide_eq_true ?_; simp (disch := omega) only [i64w]; omega)); conv => whnf)
            | ((with_reducible refine condm_pos ?_ ?_); (· assumption); conv => whnf)
            | ((with_reducible refine condm_neg ?_ ?_); (· assumption); conv => whnf)
            | ((with_reducible refine forceL_fv (by assumption) ?_); conv => whnf)
            | ((with_reducible refine forceL_rfv (by assumption) ?_); conv => whnf)
            | ((with_reducible refine forceNm_of ?_); conv => whnf)
            | ((with_reducible refine needm_of (fv_lenL (by assumption) (by assumption)) ?_); conv => whnf)
            | ((with_reducible refine optm_var (fv_strL (by assumption) (by assumption)) (fun s hs => ?_)); conv => whnf)
            | ((with_reducible refine forceA_of ?_); conv => whnf)
            | ((with_reducible refine forceL_pl (by assumption) ?_); conv => whnf)
            | ((with_reducible refine forceL_rpl (by assumption) ?_); conv => whnf)
            | ((refine ext_from (by rfl) from_n from_f ?_); conv => whnf)
            | fail)
          refine Go.Eng.Fn.frame [0, 1] (by rfl) (by exact ⟨ren_pl hp _ _ _, rfl, trivial⟩) (by simp [nodupb, V.okb, A.okb, Ob.okb, hp.2] <;> decide) (wait24g [p0, x, p0] cs 3 false hcs rfl (by decide) (goods hg) (dbls hd (by omega)) 0 (fun _ => ?_) (fun k x' hx e q1 hq1 => by omega))
          have l1 : decide ((q : Int) ≥ 1) = true := decide_eq_true (by omega)
          have l2 : decide ((q : Int) ≤ 1000) = true := decide_eq_true (by omega)
          conv => whnf
          repeat' (first
            | ((with_reducible refine regx_of ?_ ?_); (· decide +kernel); conv => whnf)
            | ((with_reducible refine growx_pre ?_ ?_); (· exact ⟨_, rfl⟩); conv => whnf)
            | ((with_reducible refine needm_of ?_ ?_); (· first | assumption | exact decide_eq_true (by omega) | exact mkOK_of (by decide) | decide +kernel | (refine decide_eq_true ?_; simp (disch := omega) only [i64w]; omega)); conv => whnf)
            | ((with_reducible refine condm_pos ?_ ?_); (· assumption); conv => whnf)
            | ((with_reducible refine condm_neg ?_ ?_); (· assumption); conv => whnf)
            | ((with_reducible refine forceL_fv (by assumption) ?_); conv => whnf)
            | ((with_reducible refine forceL_rfv (by assumption) ?_); conv => whnf)
            | ((with_reducible refine forceNm_of ?_); conv => whnf)
            | ((with_reducible refine needm_of (fv_lenL (by assumption) (by assumption)) ?_); conv => whnf)
            | ((with_reducible refine optm_var (fv_strL (by assumption) (by assumption)) (fun s hs => ?_)); conv => whnf)
            | ((with_reducible refine forceA_of ?_); conv => whnf)
            | ((with_reducible refine forceL_pl (by assumption) ?_); conv => whnf)
            | ((with_reducible refine forceL_rpl (by assumption) ?_); conv => whnf)
            | ((refine ext_from (by rfl) from_n from_f ?_); conv => whnf)
            | fail)
          exact congrArg (fun b => V.a (.bool b)) l2
set_option maxHeartbeats 2000000 in
theorem waits_nil (W : World) (fails : Int) : Go.Eng.Fn Try.prog (roOf W) 6 [.a .nils, .a (.int .i64 fails)] [] (fun v _ => v = .a (.bool true)) := by
  refine Go.Eng.Fn.of_code (gOf []) Try.func6 rfl (Nat.le_of_ble_eq_true rfl) ?_
  conv => whnf
  repeat' (first
    | ((with_reducible refine regx_of ?_ ?_); (· decide +kernel); conv => whnf)
    | ((with_reducible refine growx_pre ?_ ?_); (· exact ⟨_, rfl⟩); conv => whnf)
    | ((with_reducible refine needm_of ?_ ?_); (· first | assumption | exact decide_eq_true (by omega) | exact mkOK_of (by decide) | decide +kernel | (refine decide_eq_true ?_; simp (disch := omega) only [i64w]; omega)); conv => whnf)
    | ((with_reducible refine condm_pos ?_ ?_); (· assumption); conv => whnf)
    | ((with_reducible refine condm_neg ?_ ?_); (· assumption); conv => whnf)
    | ((with_reducible refine forceL_fv (by assumption) ?_); conv => whnf)
    | ((with_reducible refine forceL_rfv (by assumption) ?_); conv => whnf)
    | ((with_reducible refine forceNm_of ?_); conv => whnf)
    | ((with_reducible refine needm_of (fv_lenL (by assumption) (by assumption)) ?_); conv => whnf)
    | ((with_reducible refine optm_var (fv_strL (by assumption) (by assumption)) (fun s hs => ?_)); conv => whnf)
    | ((with_reducible refine forceA_of ?_); conv => whnf)
    | ((with_reducible refine forceL_pl (by assumption) ?_); conv => whnf)
    | ((with_reducible refine forceL_rpl (by assumption) ?_); conv => whnf)
    | ((refine ext_from (by rfl) from_n from_f ?_); conv => whnf)
    | fail)
  refine Go.Eng.Fn.frame [] (by rfl) (by exact trivial) (by rfl) (works18 ?_)
  conv => whnf
  repeat' (first
    | ((with_reducible refine regx_of ?_ ?_); (· decide +kernel); conv => whnf)
    | ((with_reducible refine growx_pre ?_ ?_); (· exact ⟨_, rfl⟩); conv => whnf)
    | ((with_reducible refine needm_of ?_ ?_); (· first | assumption | exact decide_eq_true (by omega) | exact mkOK_of (by decide) | decide +kernel | (refine decide_eq_true ?_; simp (disch := omega) only [i64w]; omega)); conv => whnf)
    | ((with_reducible refine condm_pos ?_ ?_); (· assumption); conv => whnf)
    | ((with_reducible refine condm_neg ?_ ?_); (· assumption); conv => whnf)
    | ((with_reducible refine forceL_fv (by assumption) ?_); conv => whnf)
    | ((with_reducible refine forceL_rfv (by assumption) ?_); conv => whnf)
    | ((with_reducible refine forceNm_of ?_); conv => whnf)
    | ((with_reducible refine needm_of (fv_lenL (by assumption) (by assumption)) ?_); conv => whnf)
    | ((with_reducible refine optm_var (fv_strL (by assumption) (by assumption)) (fun s hs => ?_)); conv => whnf)
    | ((with_reducible refine forceA_of ?_); conv => whnf)
    | ((with_reducible refine forceL_pl (by assumption) ?_); conv => whnf)
    | ((with_reducible refine forceL_rpl (by assumption) ?_); conv => whnf)
    | ((refine ext_from (by rfl) from_n from_f ?_); conv => whnf)
    | fail)
  refine Go.Eng.Fn.frame [] (by rfl) (by exact trivial) (by rfl) (new19 3 (by decide) (by decide) (fun cs hcs => ?_))
  replace hcs : cs = prow [p0, p0, p0] := hcs
  have hp := Pl.prow hcs
  conv => whnf
  repeat' (first
    | ((with_reducible refine regx_of ?_ ?_); (· decide +kernel); conv => whnf)
    | ((with_reducible refine growx_pre ?_ ?_); (· exact ⟨_, rfl⟩); conv => whnf)
    | ((with_reducible refine needm_of ?_ ?_); (· first | assumption | exact decide_eq_true (by omega) | exact mkOK_of (by decide) | decide +kernel | (refine decide_eq_true ?_; simp (disch := omega) only [i64w]; omega)); conv => whnf)
    | ((with_reducible refine condm_pos ?_ ?_); (· assumption); conv => whnf)
    | ((with_reducible refine condm_neg ?_ ?_); (· assumption); conv => whnf)
    | ((with_reducible refine forceL_fv (by assumption) ?_); conv => whnf)
    | ((with_reducible refine forceL_rfv (by assumption) ?_); conv => whnf)
    | ((with_reducible refine forceNm_of ?_); conv => whnf)
    | ((with_reducible refine needm_of (fv_lenL (by assumption) (by assumption)) ?_); conv => whnf)
    | ((with_reducible refine optm_var (fv_strL (by assumption) (by assumption)) (fun s hs => ?_)); conv => whnf)
    | ((with_reducible refine forceA_of ?_); conv => whnf)
    | ((with_reducible refine forceL_pl (by assumption) ?_); conv => whnf)
    | ((with_reducible refine forceL_rpl (by assumption) ?_); conv => whnf)
    | ((refine ext_from (by rfl) from_n from_f ?_); conv => whnf)
    | fail)
  refine Go.Eng.Fn.frame [] (by rfl) (by exact trivial) (by rfl) (new19 3 (by decide) (by decide) (fun ds hds => ?_))
  replace hds : ds = prow [p0, p0, p0] := hds
  have hq := Pl.prow hds
  conv => whnf
  repeat' (first
    | ((with_reducible refine regx_of ?_ ?_); (· decide +kernel); conv => whnf)
    | ((with_reducible refine growx_pre ?_ ?_); (· exact ⟨_, rfl⟩); conv => whnf)
    | ((with_reducible refine needm_of ?_ ?_); (· first | assumption | exact decide_eq_true (by omega) | exact mkOK_of (by decide) | decide +kernel | (refine decide_eq_true ?_; simp (disch := omega) only [i64w]; omega)); conv => whnf)
    | ((with_reducible refine condm_pos ?_ ?_); (· assumption); conv => whnf)
    | ((with_reducible refine condm_neg ?_ ?_); (· assumption); conv => whnf)
    | ((with_reducible refine forceL_fv (by assumption) ?_); conv => whnf)
    | ((with_reducible refine forceL_rfv (by assumption) ?_); conv => whnf)
    | ((with_reducible refine forceNm_of ?_); conv => whnf)
    | ((with_reducible refine needm_of (fv_lenL (by assumption) (by assumption)) ?_); conv => whnf)
    | ((with_reducible refine optm_var (fv_strL (by assumption) (by assumption)) (fun s hs => ?_)); conv => whnf)
    | ((with_reducible refine forceA_of ?_); conv => whnf)
    | ((with_reducible refine forceL_pl (by assumption) ?_); conv => whnf)
    | ((with_reducible refine forceL_rpl (by assumption) ?_); conv => whnf)
    | ((refine ext_from (by rfl) from_n from_f ?_); conv => whnf)
    | fail)
  refine loopx_iter 1 ?_
  obtain ⟨x, hcs, hg, hd0⟩ : ∃ x : Pt, cs = prow [p0, x, p0] ∧ Good x ∧ x.dbl = ((0 : Nat) : Int) := ⟨p0, hcs, Good.p0, rfl⟩
  conv => whnf
  repeat' (first
    | ((with_reducible refine regx_of ?_ ?_); (· decide +kernel); conv => whnf)
    | ((with_reducible refine growx_pre ?_ ?_); (· exact ⟨_, rfl⟩); conv => whnf)
    | ((with_reducible refine needm_of ?_ ?_); (· first | assumption | exact decide_eq_true (by omega) | exact mkOK_of (by decide) | decide +kernel | (refine decide_eq_true ?_; simp (disch := omega) only [i64w]; omega)); conv => whnf)
    | ((with_reducible refine condm_pos ?_ ?_); (· assumption); conv => whnf)
    | ((with_reducible refine condm_neg ?_ ?_); (· assumption); conv => whnf)
    | ((with_reducible refine forceL_fv (by assumption) ?_); conv => whnf)
    | ((with_reducible refine forceL_rfv (by assumption) ?_); conv => whnf)
    | ((with_reducible refine forceNm_of ?_); conv => whnf)
    | ((with_reducible refine needm_of (fv_lenL (by assumption) (by assumption)) ?_); conv => whnf)
    | ((with_reducible refine optm_var (fv_strL (by assumption) (by assumption)) (fun s hs => ?_)); conv => whnf)
    | ((with_reducible refine forceA_of ?_); conv => whnf)
    | ((with_reducible refine forceL_pl (by assumption) ?_); conv => whnf)
    | ((with_reducible refine forceL_rpl (by assumption) ?_); conv => whnf)
    | ((refine ext_from (by rfl) from_n from_f ?_); conv => whnf)
    | fail)
  refine Go.Eng.Fn.frame [0, 1] (by rfl) (by exact ⟨ren_pl hp _ _ _, rfl, trivial⟩) (by simp [nodupb, V.okb, A.okb, Ob.okb, hp.2] <;> decide) (wait24g [p0, x, p0] cs 3 false hcs rfl (by decide) (goods hg) (dbls hd0 (by decide)) 2 (fun h => absurd ⟨by decide, by decide⟩ h) (fun k x' hx e q hqe => ?_))
  obtain ⟨rfl, rfl⟩ := three hx e
  replace hqe : q = wt x 0 := by rw [hqe, hd0]; rfl
  clear hx e
  conv => whnf
  repeat' (first
    | ((with_reducible refine regx_of ?_ ?_); (· decide +kernel); conv => whnf)
    | ((with_reducible refine growx_pre ?_ ?_); (· exact ⟨_, rfl⟩); conv => whnf)
    | ((with_reducible refine needm_of ?_ ?_); (· first | assumption | exact decide_eq_true (by omega) | exact mkOK_of (by decide) | decide +kernel | (refine decide_eq_true ?_; simp (disch := omega) only [i64w]; omega)); conv => whnf)
    | ((with_reducible refine condm_pos ?_ ?_); (· assumption); conv => whnf)
    | ((with_reducible refine condm_neg ?_ ?_); (· assumption); conv => whnf)
    | ((with_reducible refine forceL_fv (by assumption) ?_); conv => whnf)
    | ((with_reducible refine forceL_rfv (by assumption) ?_); conv => whnf)
    | ((with_reducible refine forceNm_of ?_); conv => whnf)
    | ((with_reducible refine needm_of (fv_lenL (by assumption) (by assumption)) ?_); conv => whnf)
    | ((with_reducible refine optm_var (fv_strL (by assumption) (by assumption)) (fun s hs => ?_)); conv => whnf)
    | ((with_reducible refine forceA_of ?_); conv => whnf)
    | ((with_reducible refine forceL_pl (by assumption) ?_); conv => whnf)
    | ((with_reducible refine forceL_rpl (by assumption) ?_); conv => whnf)
    | ((refine ext_from (by rfl) from_n from_f ?_); conv => whnf)
    | fail)
  refine loopx_of (fun m F H => ∃ (i q : Nat) (x : Pt) (cs : List A), i ≤ 30 ∧ m = 30 - i ∧ cs = prow [p0, x, p0] ∧ Good x ∧ x.dbl = ((min i 10 : Nat) : Int) ∧ q = wt x (min i 10) ∧ F = [(1, .a (.int .i64 fails)), (5, .a (.ptr 1 0)), (13, .a (.int .i64 q)), (14, .a (.int .i64 i))] ∧ H = [.cells cs 73 false, .cells [.slc 0 0 3 3] 68 false]) 30 ?_ ?_
  · exact Into.weak [0, 1] [(1, .a (.int .i64 fails)), (5, .a (.ptr 1 0)), (13, .a (.int .i64 q)), (14, .a (.int .i64 (0 : Nat)))] [.cells cs 73 false, .cells [.slc 0 0 3 3] 68 false] ⟨0, q, x, cs, by omega, rfl, hcs, hg, hd0, hqe, rfl, rfl⟩ ⟨rfl, rfl, rfl, rfl, trivial⟩ ⟨ren_pl hp _ _ _, rfl, trivial⟩ (by simp [nodupb, baseb, Ob.okb, frmOk, V.okb, A.okb, hp.2] <;> decide)
  · clear hqe q hd0 hg hcs hp x
    rintro m F H ⟨i, q, x, cs, hi, rfl, hcs, hg, hd, hqe, rfl, rfl⟩
    have hp := Pl.prow hcs
    have hq1 := wt_in hg (min i 10)
    rw [← hqe] at hq1
    conv => whnf
    repeat' (first
      | ((with_reducible refine regx_of ?_ ?_); (· decide +kernel); conv => whnf)
      | ((with_reducible refine growx_pre ?_ ?_); (· exact ⟨_, rfl⟩); conv => whnf)
      | ((with_reducible refine needm_of ?_ ?_); (· first | assumption | exact decide_eq_true (by omega) | exact mkOK_of (by decide) | decide +kernel | (refine decide_eq_true ?_; simp (disch := omega) only [i64w]; omega)); conv => whnf)
      | ((with_reducible refine condm_pos ?_ ?_); (· assumption); conv => whnf)
      | ((with_reducible refine condm_neg ?_ ?_); (· assumption); conv => whnf)
      | ((with_reducible refine forceL_fv (by assumption) ?_); conv => whnf)
      | ((with_reducible refine forceL_rfv (by assumption) ?_); conv => whnf)
      | ((with_reducible refine forceNm_of ?_); conv => whnf)
      | ((with_reducible refine needm_of (fv_lenL (by assumption) (by assumption)) ?_); conv => whnf)
      | ((with_reducible refine optm_var (fv_strL (by assumption) (by assumption)) (fun s hs => ?_)); conv => whnf)
      | ((with_reducible refine forceA_of ?_); conv => whnf)
      | ((with_reducible refine forceL_pl (by assumption) ?_); conv => whnf)
      | ((with_reducible refine forceL_rpl (by assumption) ?_); conv => whnf)
      | ((refine ext_from (by rfl) from_n from_f ?_); conv => whnf)
      | fail)
    refine condm_of (fun h => ?_) (fun h => ?_)
    ·
      conv => whnf
      repeat' (first
        | ((with_reducible refine regx_of ?_ ?_); (· decide +kernel); conv => whnf)
        | ((with_reducible refine growx_pre ?_ ?_); (· exact ⟨_, rfl⟩); conv => whnf)
        | ((with_reducible refine needm_of ?_ ?_); (· first | assumption | exact decide_eq_true (by omega) | exact mkOK_of (by decide) | decide +kernel | (refine decide_eq_true ?_; simp (disch := omega) only [i64w]; omega)); conv => whnf)
        | ((with_reducible refine condm_pos ?_ ?_); (· assumption); conv => whnf)
        | ((with_reducible refine condm_neg ?_ ?_); (· assumption); conv => whnf)
        | ((with_reducible refine forceL_fv (by assumption) ?_); conv => whnf)
        | ((with_reducible refine forceL_rfv (by assumption) ?_); conv => whnf)
        | ((with_reducible refine forceNm_of ?_); conv => whnf)
        | ((with_reducible refine needm_of (fv_lenL (by assumption) (by assumption)) ?_); conv => whnf)
        | ((with_reducible refine optm_var (fv_strL (by assumption) (by assumption)) (fun s hs => ?_)); conv => whnf)
        | ((with_reducible refine forceA_of ?_); conv => whnf)
        | ((with_reducible refine forceL_pl (by assumption) ?_); conv => whnf)
        | ((with_reducible refine forceL_rpl (by assumption) ?_); conv => whnf)
        | ((refine ext_from (by rfl) from_n from_f ?_); conv => whnf)
        | fail)
      refine condm_of (fun h2 => ?_) (fun h2 => ?_)
      · have hi30 : i < 30 := by have := of_decide_eq_true h2; omega
        have hw : IntKind.i64.wrap (↑i + 1) = ((i + 1 : Nat) : Int) := by rw [i64w (by omega) (by omega)]; rfl
        conv => whnf
        repeat' (first
          | ((with_reducible refine regx_of ?_ ?_); (· decide +kernel); conv => whnf)
          | ((with_reducible refine growx_pre ?_ ?_); (· exact ⟨_, rfl⟩); conv => whnf)
          | ((with_reducible refine needm_of ?_ ?_); (· first | assumption | exact decide_eq_true (by omega) | exact mkOK_of (by decide) | decide +kernel | (refine decide_eq_true ?_; simp (disch := omega) only [i64w]; omega)); conv => whnf)
          | ((with_reducible refine condm_pos ?_ ?_); (· assumption); conv => whnf)
          | ((with_reducible refine condm_neg ?_ ?_); (· assumption); conv => whnf)
          | ((with_reducible refine forceL_fv (by assumption) ?_); conv => whnf)
          | ((with_reducible refine forceL_rfv (by assumption) ?_); conv => whnf)
          | ((with_reducible refine forceNm_of ?_); conv => whnf)
          | ((with_reducible refine needm_of (fv_lenL (by assumption) (by assumption)) ?_); conv => whnf)
          | ((with_reducible refine optm_var (fv_strL (by assumption) (by assumption)) (fun s hs => ?_)); conv => whnf)
          | ((with_reducible refine forceA_of ?_); conv => whnf)
          | ((with_reducible refine forceL_pl (by assumption) ?_); conv => whnf)
          | ((with_reducible refine forceL_rpl (by assumption) ?_); conv => whnf)
          | ((refine ext_from (by rfl) from_n from_f ?_); conv => whnf)
          | fail)
        refine Go.Eng.Fn.frame [0, 1] (by rfl) (by exact ⟨ren_pl hp _ _ _, rfl, trivial⟩) (by simp [nodupb, V.okb, A.okb, Ob.okb, hp.2] <;> decide) (failed23 [p0, x, p0] cs 3 false hcs rfl (by decide) (dbls hd (by omega)) 2 (fun h => absurd ⟨by decide, by decide⟩ h) (fun k x' hx e cs1 hcs1 => ?_))
        obtain ⟨rfl, rfl⟩ := three hx e
        clear hx e
        obtain ⟨x1, hx1⟩ : ∃ x1 : Pt, x1 = { x with dbl := min (x.dbl + 1) 10 } := ⟨_, rfl⟩
        replace hcs1 : cs1 = prow [p0, x1, p0] := by rw [hcs1, hx1]; rfl
        have hp1 := Pl.prow hcs1
        have hg1 : Good x1 := by rw [hx1]; exact hg.dbl _
        have hd1 : x1.dbl = ((min (i + 1) 10 : Nat) : Int) := by rw [hx1]; show min (x.dbl + 1) 10 = _; omega
        have hwt : ∀ k, wt x1 k = wt x k := fun k => by rw [hx1]; exact wt_dbl x _ k
        conv => whnf
        repeat' (first
          | ((with_reducible refine regx_of ?_ ?_); (· decide +kernel); conv => whnf)
          | ((with_reducible refine growx_pre ?_ ?_); (· exact ⟨_, rfl⟩); conv => whnf)
          | ((with_reducible refine needm_of ?_ ?_); (· first | assumption | exact decide_eq_true (by omega) | exact mkOK_of (by decide) | decide +kernel | (refine decide_eq_true ?_; simp (disch := omega) only [i64w]; omega)); conv => whnf)
          | ((with_reducible refine condm_pos ?_ ?_); (· assumption); conv => whnf)
          | ((with_reducible refine condm_neg ?_ ?_); (· assumption); conv => whnf)
          | ((with_reducible refine forceL_fv (by assumption) ?_); conv => whnf)
          | ((with_reducible refine forceL_rfv (by assumption) ?_); conv => whnf)
          | ((with_reducible refine forceNm_of ?_); conv => whnf)
          | ((with_reducible refine needm_of (fv_lenL (by assumption) (by assumption)) ?_); conv => whnf)
          | ((with_reducible refine optm_var (fv_strL (by assumption) (by assumption)) (fun s hs => ?_)); conv => whnf)
          | ((with_reducible refine forceA_of ?_); conv => whnf)
          | ((with_reducible refine forceL_pl (by assumption) ?_); conv => whnf)
          | ((with_reducible refine forceL_rpl (by assumption) ?_); conv => whnf)
          | ((refine ext_from (by rfl) from_n from_f ?_); conv => whnf)
          | fail)
        refine Go.Eng.Fn.frame [0, 1] (by rfl) (by exact ⟨ren_pl hp1 _ _ _, rfl, trivial⟩) (by simp [nodupb, V.okb, A.okb, Ob.okb, hp1.2] <;> decide) (wait24g [p0, x1, p0] cs1 3 false hcs1 rfl (by decide) (goods hg1) (dbls hd1 (by omega)) 2 (fun h => absurd ⟨by decide, by decide⟩ h) (fun k x' hx e n hne => ?_))
        obtain ⟨rfl, rfl⟩ := three hx e
        clear hx e
        replace hne : n = wt x1 (min (i + 1) 10) := by rw [hne, hd1]; rfl
        have hn1 := wt_in hg1 (min (i + 1) 10)
        rw [← hne] at hn1
        have hqn : q ≤ n ∧ (10 ≤ i → n = q) := by
          rw [hne, hqe, hwt]
          by_cases h10 : i < 10
          · rw [Nat.min_eq_left (by omega), Nat.min_eq_left (by omega)]
            exact ⟨wt_mono hg i, fun h => by omega⟩
          · rw [Nat.min_eq_right (by omega), Nat.min_eq_right (by omega)]
            exact ⟨Nat.le_refl _, fun _ => rfl⟩
        have l1 : decide ((n : Int) < (q : Int)) = false := decide_eq_false (by omega)
        have l2 : decide ((n : Int) < 1) = false := decide_eq_false (by omega)
        have l3 : decide ((n : Int) > 1000) = false := decide_eq_false (by omega)
        conv => whnf
        repeat' (first
          | ((with_reducible refine regx_of ?_ ?_); (· decide +kernel); conv => whnf)
          | ((with_reducible refine growx_pre ?_ ?_); (· exact ⟨_, rfl⟩); conv => whnf)
          | ((with_reducible refine needm_of ?_ ?_); (· first | assumption | exact decide_eq_true (by omega) | exact mkOK_of (by decide) | decide +kernel | (refine decide_eq_true ?_; simp (disch := omega) only [i64w]; omega)); conv => whnf)
          | ((with_reducible refine condm_pos ?_ ?_); (· assumption); conv => whnf)
          | ((with_reducible refine condm_neg ?_ ?_); (· assumption); conv => whnf)
          | ((with_reducible refine forceL_fv (by assumption) ?_); conv => whnf)
          | ((with_reducible refine forceL_rfv (by assumption) ?_); conv => whnf)
          | ((with_reducible refine forceNm_of ?_); conv => whnf)
          | ((with_reducible refine needm_of (fv_lenL (by assumption) (by assumption)) ?_); conv => whnf)
          | ((with_reducible refine optm_var (fv_strL (by assumption) (by assumption)) (fun s hs => ?_)); conv => whnf)
          | ((with_reducible refine forceA_of ?_); conv => whnf)
          | ((with_reducible refine forceL_pl (by assumption) ?_); conv => whnf)
          | ((with_reducible refine forceL_rpl (by assumption) ?_); conv => whnf)
          | ((refine ext_from (by rfl) from_n from_f ?_); conv => whnf)
          | fail)
        refine condm_of (fun h10 => ?_) (fun h10 => ?_)
        · have h10' : 10 ≤ i := by have := of_decide_eq_true h10; omega
          have l4 : ((n : Int) != (q : Int)) = false := by rw [hqn.2 h10']; simp
          conv => whnf
          repeat' (first
            | ((with_reducible refine regx_of ?_ ?_); (· decide +kernel); conv => whnf)
            | ((with_reducible refine growx_pre ?_ ?_); (· exact ⟨_, rfl⟩); conv => whnf)
            | ((with_reducible refine needm_of ?_ ?_); (· first | assumption | exact decide_eq_true (by omega) | exact mkOK_of (by decide) | decide +kernel | (refine decide_eq_true ?_; simp (disch := omega) only [i64w]; omega)); conv => whnf)
            | ((with_reducible refine condm_pos ?_ ?_); (· assumption); conv => whnf)
            | ((with_reducible refine condm_neg ?_ ?_); (· assumption); conv => whnf)
            | ((with_reducible refine forceL_fv (by assumption) ?_); conv => whnf)
            | ((with_reducible refine forceL_rfv (by assumption) ?_); conv => whnf)
            | ((with_reducible refine forceNm_of ?_); conv => whnf)
            | ((with_reducible refine needm_of (fv_lenL (by assumption) (by assumption)) ?_); conv => whnf)
            | ((with_reducible refine optm_var (fv_strL (by assumption) (by assumption)) (fun s hs => ?_)); conv => whnf)
            | ((with_reducible refine forceA_of ?_); conv => whnf)
            | ((with_reducible refine forceL_pl (by assumption) ?_); conv => whnf)
            | ((with_reducible refine forceL_rpl (by assumption) ?_); conv => whnf)
            | ((refine ext_from (by rfl) from_n from_f ?_); conv => whnf)
            | fail)
          exact ⟨30 - (i + 1), by omega, Into.weak [0, 1] [(1, .a (.int .i64 fails)), (5, .a (.ptr 1 0)), (13, .a (.int .i64 n)), (14, .a (.int .i64 ((i + 1 : Nat) : Int)))] [.cells cs1 73 false, .cells [.slc 0 0 3 3] 68 false] ⟨i + 1, n, x1, cs1, by omega, rfl, hcs1, hg1, hd1, hne, rfl, rfl⟩ ⟨rfl, rfl, rfl, congrArg (fun z => some (V.a (.int .i64 z))) hw, trivial⟩ ⟨ren_pl hp1 _ _ _, rfl, trivial⟩ (by simp [nodupb, baseb, Ob.okb, frmOk, V.okb, A.okb, hp1.2] <;> decide)⟩
        ·
          conv => whnf
          repeat' (first
            | ((with_reducible refine regx_of ?_ ?_); (· decide +kernel); conv => whnf)
            | ((with_reducible refine growx_pre ?_ ?_); (· exact ⟨_, rfl⟩); conv => whnf)
            | ((with_reducible refine needm_of ?_ ?_); (· first | assumption | exact decide_eq_true (by omega) | exact mkOK_of (by decide) | decide +kernel | (refine decide_eq_true ?_; simp (disch := omega) only [i64w]; omega)); conv => whnf)
            | ((with_reducible refine condm_pos ?_ ?_); (· assumption); conv => whnf)
            | ((with_reducible refine condm_neg ?_ ?_); (· assumption); conv => whnf)
            | ((with_reducible refine forceL_fv (by assumption) ?_); conv => whnf)
            | ((with_reducible refine forceL_rfv (by assumption) ?_); conv => whnf)
            | ((with_reducible refine forceNm_of ?_); conv => whnf)
            | ((with_reducible refine needm_of (fv_lenL (by assumption) (by assumption)) ?_); conv => whnf)
            | ((with_reducible refine optm_var (fv_strL (by assumption) (by assumption)) (fun s hs => ?_)); conv => whnf)
            | ((with_reducible refine forceA_of ?_); conv => whnf)
            | ((with_reducible refine forceL_pl (by assumption) ?_); conv => whnf)
            | ((with_reducible refine forceL_rpl (by assumption) ?_); conv => whnf)
            | ((refine ext_from (by rfl) from_n from_f ?_); conv => whnf)
            | fail)
          exact ⟨30 - (i + 1), by omega, Into.weak [0, 1] [(1, .a (.int .i64 fails)), (5, .a (.ptr 1 0)), (13, .a (.int .i64 n)), (14, .a (.int .i64 ((i + 1 : Nat) : Int)))] [.cells cs1 73 false, .cells [.slc 0 0 3 3] 68 false] ⟨i + 1, n, x1, cs1, by omega, rfl, hcs1, hg1, hd1, hne, rfl, rfl⟩ ⟨rfl, rfl, rfl, congrArg (fun z => some (V.a (.int .i64 z))) hw, trivial⟩ ⟨ren_pl hp1 _ _ _, rfl, trivial⟩ (by simp [nodupb, baseb, Ob.okb, frmOk, V.okb, A.okb, hp1.2] <;> decide)⟩
      ·
        conv => whnf
        repeat' (first
          | ((with_reducible refine regx_of ?_ ?_); (· decide +kernel); conv => whnf)
          | ((with_reducible refine growx_pre ?_ ?_); (· exact ⟨_, rfl⟩); conv => whnf)
          | ((with_reducible refine needm_of ?_ ?_); (· first | assumption | exact decide_eq_true (by omega) | exact mkOK_of (by decide) | decide +kernel | (refine decide_eq_true ?_; simp (disch := omega) only [i64w]; omega)); conv => whnf)
          | ((with_reducible refine condm_pos ?_ ?_); (· assumption); conv => whnf)
          | ((with_reducible refine condm_neg ?_ ?_); (· assumption); conv => whnf)
          | ((with_reducible refine forceL_fv (by assumption) ?_); conv => whnf)
          | ((with_reducible refine forceL_rfv (by assumption) ?_); conv => whnf)
          | ((with_reducible refine forceNm_of ?_); conv => whnf)
          | ((with_reducible refine needm_of (fv_lenL (by assumption) (by assumption)) ?_); conv => whnf)
          | ((with_reducible refine optm_var (fv_strL (by assumption) (by assumption)) (fun s hs => ?_)); conv => whnf)
          | ((with_reducible refine forceA_of ?_); conv => whnf)
          | ((with_reducible refine forceL_pl (by assumption) ?_); conv => whnf)
          | ((with_reducible refine forceL_rpl (by assumption) ?_); conv => whnf)
          | ((refine ext_from (by rfl) from_n from_f ?_); conv => whnf)
          | fail)
        refine Go.Eng.Fn.frame [0, 1] (by rfl) (by exact ⟨ren_pl hp _ _ _, rfl, trivial⟩) (by simp [nodupb, V.okb, A.okb, Ob.okb, hp.2] <;> decide) (wait24g [p0, x, p0] cs 3 false hcs rfl (by decide) (goods hg) (dbls hd (by omega)) 1 (fun h => absurd ⟨by decide, by decide⟩ h) (fun k x' hx e q1 hq1 => ?_))
        obtain rfl : k = 0 := by omega
        obtain rfl : p0 = x' := by simpa using hx
        obtain rfl : q1 = 8 := by rw [hq1]; exact wt_p0
        clear hx e hq1
        conv => whnf
        repeat' (first
          | ((with_reducible refine regx_of ?_ ?_); (· decide +kernel); conv => whnf)
          | ((with_reducible refine growx_pre ?_ ?_); (· exact ⟨_, rfl⟩); conv => whnf)
          | ((with_reducible refine needm_of ?_ ?_); (· first | assumption | exact decide_eq_true (by omega) | exact mkOK_of (by decide) | decide +kernel | (refine decide_eq_true ?_; simp (disch := omega) only [i64w]; omega)); conv => whnf)
          | ((with_reducible refine condm_pos ?_ ?_); (· assumption); conv => whnf)
          | ((with_reducible refine condm_neg ?_ ?_); (· assumption); conv => whnf)
          | ((with_reducible refine forceL_fv (by assumption) ?_); conv => whnf)
          | ((with_reducible refine forceL_rfv (by assumption) ?_); conv => whnf)
          | ((with_reducible refine forceNm_of ?_); conv => whnf)
          | ((with_reducible refine needm_of (fv_lenL (by assumption) (by assumption)) ?_); conv => whnf)
          | ((with_reducible refine optm_var (fv_strL (by assumption) (by assumption)) (fun s hs => ?_)); conv => whnf)
          | ((with_reducible refine forceA_of ?_); conv => whnf)
          | ((with_reducible refine forceL_pl (by assumption) ?_); conv => whnf)
          | ((with_reducible refine forceL_rpl (by assumption) ?_); conv => whnf)
          | ((refine ext_from (by rfl) from_n from_f ?_); conv => whnf)
          | fail)
        refine Go.Eng.Fn.frame [0, 1] (by rfl) (by exact ⟨ren_pl hp _ _ _, rfl, trivial⟩) (by simp [nodupb, V.okb, A.okb, Ob.okb, hp.2] <;> decide) (wait24g [p0, x, p0] cs 3 false hcs rfl (by decide) (goods hg) (dbls hd (by omega)) 3 (fun h => absurd ⟨by decide, by decide⟩ h) (fun k x' hx e q1 hq1 => ?_))
        obtain rfl : k = 2 := by omega
        obtain rfl : p0 = x' := by simpa using hx
        obtain rfl : q1 = 8 := by rw [hq1]; exact wt_p0
        clear hx e hq1
        conv => whnf
        repeat' (first
          | ((with_reducible refine regx_of ?_ ?_); (· decide +kernel); conv => whnf)
          | ((with_reducible refine growx_pre ?_ ?_); (· exact ⟨_, rfl⟩); conv => whnf)
          | ((with_reducible refine needm_of ?_ ?_); (· first | assumption | exact decide_eq_true (by omega) | exact mkOK_of (by decide) | decide +kernel | (refine decide_eq_true ?_; simp (disch := omega) only [i64w]; omega)); conv => whnf)
          | ((with_reducible refine condm_pos ?_ ?_); (· assumption); conv => whnf)
          | ((with_reducible refine condm_neg ?_ ?_); (· assumption); conv => whnf)
          | ((with_reducible refine forceL_fv (by assumption) ?_); conv => whnf)
          | ((with_reducible refine forceL_rfv (by assumption) ?_); conv => whnf)
          | ((with_reducible refine forceNm_of ?_); conv => whnf)
          | ((with_reducible refine needm_of (fv_lenL (by assumption) (by assumption)) ?_); conv => whnf)
          | ((with_reducible refine optm_var (fv_strL (by assumption) (by assumption)) (fun s hs => ?_)); conv => whnf)
          | ((with_reducible refine forceA_of ?_); conv => whnf)
          | ((with_reducible refine forceL_pl (by assumption) ?_); conv => whnf)
          | ((with_reducible refine forceL_rpl (by assumption) ?_); conv => whnf)
          | ((refine ext_from (by rfl) from_n from_f ?_); conv => whnf)
          | fail)
        refine Go.Eng.Fn.frame [0, 1] (by rfl) (by exact ⟨ren_pl hp _ _ _, rfl, trivial⟩) (by simp [nodupb, V.okb, A.okb, Ob.okb, hp.2] <;> decide) (wait24g [p0, x, p0] cs 3 false hcs rfl (by decide) (goods hg) (dbls hd (by omega)) 4 (fun _ => ?_) (fun k x' hx e q1 hq1 => absurd hx (by have h3 : k = 3 := (by omega); subst h3; simp)))
        conv => whnf
        repeat' (first
          | ((with_reducible refine regx_of ?_ ?_); (· decide +kernel); conv => whnf)
          | ((with_reducible refine growx_pre ?_ ?_); (· exact ⟨_, rfl⟩); conv => whnf)
          | ((with_reducible refine needm_of ?_ ?_); (· first | assumption | exact decide_eq_true (by omega) | exact mkOK_of (by decide) | decide +kernel | (refine decide_eq_true ?_; simp (disch := omega) only [i64w]; omega)); conv => whnf)
          | ((with_reducible refine condm_pos ?_ ?_); (· assumption); conv => whnf)
          | ((with_reducible refine condm_neg ?_ ?_); (· assumption); conv => whnf)
          | ((with_reducible refine forceL_fv (by assumption) ?_); conv => whnf)
          | ((with_reducible refine forceL_rfv (by assumption) ?_); conv => whnf)
          | ((with_reducible refine forceNm_of ?_); conv => whnf)
          | ((with_reducible refine needm_of (fv_lenL (by assumption) (by assumption)) ?_); conv => whnf)
          | ((with_reducible refine optm_var (fv_strL (by assumption) (by assumption)) (fun s hs => ?_)); conv => whnf)
          | ((with_reducible refine forceA_of ?_); conv => whnf)
          | ((with_reducible refine forceL_pl (by assumption) ?_); conv => whnf)
          | ((with_reducible refine forceL_rpl (by assumption) ?_); conv => whnf)
          | ((refine ext_from (by rfl) from_n from_f ?_); conv => whnf)
          | fail)
        refine Go.Eng.Fn.frame [0, 1] (by rfl) (by exact ⟨ren_pl hp _ _ _, rfl, trivial⟩) (by simp [nodupb, V.okb, A.okb, Ob.okb, hp.2] <;> decide) (wait24g [p0, x, p0] cs 3 false hcs rfl (by decide) (goods hg) (dbls hd (by omega)) 0 (fun _ => ?_) (fun k x' hx e q1 hq1 => by omega))
        have l1 : decide ((q : Int) ≥ 1) = true := decide_eq_true (by omega)
        have l2 : decide ((q : Int) ≤ 1000) = true := decide_eq_true (by omega)
        conv => whnf
        repeat' (first
          | ((with_reducible refine regx_of ?_ ?_); (· decide +kernel); conv => whnf)
          | ((with_reducible refine growx_pre ?_ ?_); (· exact ⟨_, rfl⟩); conv => whnf)
          | ((with_reducible refine needm_of ?_ ?_); (· first | assumption | exact decide_eq_true (by omega) | exact mkOK_of (by decide) | decide +kernel | (refine decide_eq_true ?_; simp (disch := omega) only [i64w]; omega)); conv => whnf)
          | ((with_reducible refine condm_pos ?_ ?_); (· assumption); conv => whnf)
          | ((with_reducible refine condm_neg ?_ ?_); (· assumption); conv => whnf)
          | ((with_reducible refine forceL_fv (by assumption) ?_); conv => whnf)
          | ((with_reducible refine forceL_rfv (by assumption) ?_); conv => whnf)
          | ((with_reducible refine forceNm_of ?_); conv => whnf)
          | ((with_reducible refine needm_of (fv_lenL (by assumption) (by assumption)) ?_); conv => whnf)
          | ((with_reducible refine optm_var (fv_strL (by assumption) (by assumption)) (fun s hs => ?_)); conv => whnf)
          | ((with_reducible refine forceA_of ?_); conv => whnf)
          | ((with_reducible refine forceL_pl (by assumption) ?_); conv => whnf)
          | ((with_reducible refine forceL_rpl (by assumption) ?_); conv => whnf)
          | ((refine ext_from (by rfl) from_n from_f ?_); conv => whnf)
          | fail)
        exact congrArg (fun b => V.a (.bool b)) l2
    ·
      conv => whnf
      repeat' (first
        | ((with_reducible refine regx_of ?_ ?_); (· decide +kernel); conv => whnf)
        | ((with_reducible refine growx_pre ?_ ?_); (· exact ⟨_, rfl⟩); conv => whnf)
        | ((with_reducible refine needm_of ?_ ?_); (· first | assumption | exact decide_eq_true (by omega) | exact mkOK_of (by decide) | decide +kernel | (refine decide_eq_true ?_; simp (disch := omega) only [i64w]; omega)); conv => whnf)
        | ((with_reducible refine condm_pos ?_ ?_); (· assumption); conv => whnf)
        | ((with_reducible refine condm_neg ?_ ?_); (· assumption); conv => whnf)
        | ((with_reducible refine forceL_fv (by assumption) ?_); conv => whnf)
        | ((with_reducible refine forceL_rfv (by assumption) ?_); conv => whnf)
        | ((with_reducible refine forceNm_of ?_); conv => whnf)
        | ((with_reducible refine needm_of (fv_lenL (by assumption) (by assumption)) ?_); conv => whnf)
        | ((with_reducible refine optm_var (fv_strL (by assumption) (by assumption)) (fun s hs => ?_)); conv => whnf)
        | ((with_reducible refine forceA_of ?_); conv => whnf)
        | ((with_reducible refine forceL_pl (by assumption) ?_); conv => whnf)
        | ((with_reducible refine forceL_rpl (by assumption) ?_); conv => whnf)
        | ((refine ext_from (by rfl) from_n from_f ?_); conv => whnf)
        | fail)
      refine Go.Eng.Fn.frame [0, 1] (by rfl) (by exact ⟨ren_pl hp _ _ _, rfl, trivial⟩) (by simp [nodupb, V.okb, A.okb, Ob.okb, hp.2] <;> decide) (wait24g [p0, x, p0] cs 3 false hcs rfl (by decide) (goods hg) (dbls hd (by omega)) 1 (fun h => absurd ⟨by decide, by decide⟩ h) (fun k x' hx e q1 hq1 => ?_))
      obtain rfl : k = 0 := by omega
      obtain rfl : p0 = x' := by simpa using hx
      obtain rfl : q1 = 8 := by rw [hq1]; exact wt_p0
      clear hx e hq1
      conv => whnf
      repeat' (first
        | ((with_reducible refine regx_of ?_ ?_); (· decide +kernel); conv => whnf)
        | ((with_reducible refine growx_pre ?_ ?_); (· exact ⟨_, rfl⟩); conv => whnf)
        | ((with_reducible refine needm_of ?_ ?_); (· first | assumption | exact decide_eq_true (by omega) | exact mkOK_of (by decide) | decide +kernel | (refine decide_eq_true ?_; simp (disch := omega) only [i64w]; omega)); conv => whnf)
        | ((with_reducible refine condm_pos ?_ ?_); (· assumption); conv => whnf)
        | ((with_reducible refine condm_neg ?_ ?_); (· assumption); conv => whnf)
        | ((with_reducible refine forceL_fv (by assumption) ?_); conv => whnf)
        | ((with_reducible refine forceL_rfv (by assumption) ?_); conv => whnf)
        | ((with_reducible refine forceNm_of ?_); conv => whnf)
        | ((with_reducible refine needm_of (fv_lenL (by assumption) (by assumption)) ?_); conv => whnf)
        | ((with_reducible refine optm_var (fv_strL (by assumption) (by assumption)) (fun s hs => ?_)); conv => whnf)
        | ((with_reducible refine forceA_of ?_); conv => whnf)
        | ((with_reducible refine forceL_pl (by assumption) ?_); conv => whnf)
        | ((with_reducible refine forceL_rpl (by assumption) ?_); conv => whnf)
        | ((refine ext_from (by rfl) from_n from_f ?_); conv => whnf)
        | fail)
      refine Go.Eng.Fn.frame [0, 1] (by rfl) (by exact ⟨ren_pl hp _ _ _, rfl, trivial⟩) (by simp [nodupb, V.okb, A.okb, Ob.okb, hp.2] <;> decide) (wait24g [p0, x, p0] cs 3 false hcs rfl (by decide) (goods hg) (dbls hd (by omega)) 3 (fun h => absurd ⟨by decide, by decide⟩ h) (fun k x' hx e q1 hq1 => ?_))
      obtain rfl : k = 2 := by omega
      obtain rfl : p0 = x' := by simpa using hx
      obtain rfl : q1 = 8 := by rw [hq1]; exact wt_p0
      clear hx e hq1
      conv => whnf
      repeat' (first
        | ((with_reducible refine regx_of ?_ ?_); (· decide +kernel); conv => whnf)
        | ((with_reducible refine growx_pre ?_ ?_); (· exact ⟨_, rfl⟩); conv => whnf)
        | ((with_reducible refine needm_of ?_ ?_); (· first | assumption | exact decide_eq_true (by omega) | exact mkOK_of (by decide) | decide +kernel | (refine decide_eq_true ?_; simp (disch := omega) only [i64w]; omega)); conv => whnf)
        | ((with_reducible refine condm_pos ?_ ?_); (· assumption); conv => whnf)
        | ((with_reducible refine condm_neg ?_ ?_); (· assumption); conv => whnf)
        | ((with_reducible refine forceL_fv (by assumption) ?_); conv => whnf)
        | ((with_reducible refine forceL_rfv (by assumption) ?_); conv => whnf)
        | ((with_reducible refine forceNm_of ?_); conv => whnf)
        | ((with_reducible refine needm_of (fv_lenL (by assumption) (by assumption)) ?_); conv => whnf)
        | ((with_reducible refine optm_var (fv_strL (by assumption) (by assumption)) (fun s hs => ?_)); conv => whnf)
        | ((with_reducible refine forceA_of ?_); conv => whnf)
        | ((with_reducible refine forceL_pl (by assumption) ?_); conv => whnf)
        | ((with_reducible refine forceL_rpl (by assumption) ?_); conv => whnf)
        | ((refine ext_from (by rfl) from_n from_f ?_); conv => whnf)
        | fail)
      refine Go.Eng.Fn.frame [0, 1] (by rfl) (by exact ⟨ren_pl hp _ _ _, rfl, trivial⟩) (by simp [nodupb, V.okb, A.okb, Ob.okb, hp.2] <;> decide) (wait24g [p0, x, p0] cs 3 false hcs rfl (by decide) (goods hg) (dbls hd (by omega)) 4 (fun _ => ?_) (fun k x' hx e q1 hq1 => absurd hx (by have h3 : k = 3 := (by omega); subst h3; simp)))
      conv => whnf
      repeat' (first
        | ((with_reducible refine regx_of ?_ ?_); (· decide +kernel); conv => whnf)
        | ((with_reducible refine growx_pre ?_ ?_); (· exact ⟨_, rfl⟩); conv => whnf)
        | ((with_reducible refine needm_of ?_ ?_); (· first | assumption | exact decide_eq_true (by omega) | exact mkOK_of (by decide) | decide +kernel | (refine decide_eq_true ?_; simp (disch := omega) only [i64w]; omega)); conv => whnf)
        | ((with_reducible refine condm_pos ?_ ?_); (· assumption); conv => whnf)
        | ((with_reducible refine condm_neg ?_ ?_); (· assumption); conv => whnf)
        | ((with_reducible refine forceL_fv (by assumption) ?_); conv => whnf)
        | ((with_reducible refine forceL_rfv (by assumption) ?_); conv => whnf)
        | ((with_reducible refine forceNm_of ?_); conv => whnf)
        | ((with_reducible refine needm_of (fv_lenL (by assumption) (by assumption)) ?_); conv => whnf)
        | ((with_reducible refine optm_var (fv_strL (by assumption) (by assumption)) (fun s hs => ?_)); conv => whnf)
        | ((with_reducible refine forceA_of ?_); conv => whnf)
        | ((with_reducible refine forceL_pl (by assumption) ?_); conv => whnf)
        | ((with_reducible refine forceL_rpl (by assumption) ?_); conv => whnf)
        | ((refine ext_from (by rfl) from_n from_f ?_); conv => whnf)
        | fail)
      refine Go.Eng.Fn.frame [0, 1] (by rfl) (by exact ⟨ren_pl hp _ _ _, rfl, trivial⟩) (by simp [nodupb, V.okb, A.okb, Ob.okb, hp.2] <;> decide) (wait24g [p0, x, p0] cs 3 false hcs rfl (by decide) (goods hg) (dbls hd (by omega)) 0 (fun _ => ?_) (fun k x' hx e q1 hq1 => by omega))
      have l1 : decide ((q : Int) ≥ 1) = true := decide_eq_true (by omega)
      have l2 : decide ((q : Int) ≤ 1000) = true := decide_eq_true (by omega)
      conv => whnf
      repeat' (first
        | ((with_reducible refine regx_of ?_ ?_); (· decide +kernel); conv => whnf)
        | ((with_reducible refine growx_pre ?_ ?_); (· exact ⟨_, rfl⟩); conv => whnf)
        | ((with_reducible refine needm_of ?_ ?_); (· first | assumption | exact decide_eq_true (by omega) | exact mkOK_of (by decide) | decide +kernel | (refine decide_eq_true ?_; simp (disch := omega) only [i64w]; omega)); conv => whnf)
        | ((with_reducible refine condm_pos ?_ ?_); (· assumption); conv => whnf)
        | ((with_reducible refine condm_neg ?_ ?_); (· assumption); conv => whnf)
        | ((with_reducible refine forceL_fv (by assumption) ?_); conv => whnf)
        | ((with_reducible refine forceL_rfv (by assumption) ?_); conv => whnf)
        | ((with_reducible refine forceNm_of ?_); conv => whnf)
        | ((with_reducible refine needm_of (fv_lenL (by assumption) (by assumption)) ?_); conv => whnf)
        | ((with_reducible refine optm_var (fv_strL (by assumption) (by assumption)) (fun s hs => ?_)); conv => whnf)
        | ((with_reducible refine forceA_of ?_); conv => whnf)
        | ((with_reducible refine forceL_pl (by assumption) ?_); conv => whnf)
        | ((with_reducible refine forceL_rpl (by assumption) ?_); conv => whnf)
        | ((refine ext_from (by rfl) from_n from_f ?_); conv => whnf)
        | fail)
      exact congrArg (fun b => V.a (.bool b)) l2
theorem top6 (W : World) (y : A) (len cap : Nat) (G : Nat → List A) (hG : IsSl W 1 KW y len cap G) (fails : Int) (_ : -9223372036854775808 ≤ fails ∧ fails ≤ 9223372036854775807) :
    Go.Eng.Fn Try.prog (roOf W) 6 [.a y, .a (.int .i64 fails)] [] (fun v _ => v = .a (.bool true)) := by
  rcases id hG with ⟨rfl, _⟩ | ⟨p, rfl, h1, h2, _⟩
  · exact waits_nil W fails
  · exact waits W p len cap G hG (by unfold maxLen at h2; omega) fails
end
end Go.Proofs.Ytmnimmhpclhmfaa.PC
