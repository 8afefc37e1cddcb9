import Derived.Test.YtimddbgnaeeggaaDoorKJ
import Derived.Test.YtimddbgnaeeggaaDoorEngI
namespace Go.Proofs.YtimddbgnaeeggaaDoor.KD
open Go.Eng
set_option maxRecDepth 100000
theorem loopx_gen {n0 : Nat} {body : Frm → Hp → (Exit → Frm → Hp → Prop) → Prop} {F : Frm} {H : Hp} {Q : Exit → Frm → Hp → Prop} (J : Frm → Hp → Prop) (k : Exit) (hJ : ∀ F H, Into n0 F H J → Q k F H)
    (h : ∀ Q' : Exit → Frm → Hp → Prop, (∀ F H, Into n0 F H J → Q' k F H) → loopx n0 body F H Q') : loopx n0 body F H Q := h Q hJ
theorem u8w {x : Nat} (h : x < 256) : IntKind.u8.wrap (x : Int) = (x : Int) := by
  simp only [IntKind.wrap, IntKind.signed, IntKind.bits]
  simp
  omega
def KCo : List Sc := [.int .u8, .int .i16]
set_option maxHeartbeats 2000000 in
theorem topUp (W : World) (y : A) (len cap : Nat) (G : Nat → List A) (hG : IsSl W 2 KCo y len cap G) (y2 : A) (len2 cap2 : Nat) (G2 : Nat → List A) (hG2 : IsSl W 2 KCo y2 len2 cap2 G2) :
    Go.Eng.Fn Tryd.prog (roOf W) 6 [.a y, .a y2] [] (fun v _ => v = .a (.bool true)) := by
  have hy2 : (∀ δ : Nat → Nat, some (V.a y2) = some ((V.a y2).ren δ)) ∧ ∀ n, A.okb n y2 = true := by
    rcases id hG2 with ⟨rfl, _, _⟩ | ⟨p, rfl, _⟩ <;> exact ⟨fun _ => rfl, fun _ => rfl⟩
  refine Go.Eng.Fn.of_code (cutAt [15, 29] (gOf [])) Tryd.func6 rfl (Nat.le_of_ble_eq_true rfl) ?_
  conv => whnf
  repeat' (first
    | ((with_reducible refine regx_of ?_ ?_); (· decide +kernel); conv => whnf)
    | ((with_reducible refine growx_pre ?_ ?_); (· exact ⟨_, rfl⟩); conv => whnf)
    | ((with_reducible refine needm_of ?_ ?_); (· first | assumption | exact decide_eq_true (by omega) | exact mkOK_of (by decide) | decide +kernel | (refine decide_eq_true ?_; simp (disch := omega) only [i64w]; omega)); conv => whnf)
    | ((with_reducible refine condm_pos ?_ ?_); (· assumption); conv => whnf)
    | ((with_reducible refine condm_neg ?_ ?_); (· assumption); conv => whnf)
    | ((with_reducible refine forceL_fv (by assumption) ?_); conv => whnf)
    | ((with_reducible refine forceL_rfv (by assumption) ?_); conv => whnf)
    | ((with_reducible refine forceNm_of ?_); conv => whnf)
    | ((with_reducible refine needm_of (fv_lenL (by assumption) (by assumption)) ?_); conv => whnf)
    | ((with_reducible refine optm_var (fv_strL (by assumption) (by assumption)) (fun s hs => ?_)); conv => whnf)
    | ((with_reducible refine forceA_of ?_); conv => whnf)
    | ((with_reducible refine forceL_pl (by assumption) ?_); conv => whnf)
    | ((with_reducible refine forceL_rpl (by assumption) ?_); conv => whnf)
    | ((with_reducible apply optm_of); (· first | exact g0 | exact g1 | exact g2); conv => whnf)
    | ((with_reducible refine needm_of (st12 (by assumption)) ?_); conv => whnf)
    | ((with_reducible refine needm_of (len12 (by assumption)) ?_); conv => whnf)
    | ((with_reducible refine forceL_to (store12 (by assumption)) ?_); conv => whnf)
    | ((with_reducible refine forceL_to (whole12 (by assumption)) ?_); conv => whnf)
    | ((with_reducible refine condm_pos ?_ ?_); (· rfl); conv => whnf)
    | ((with_reducible refine condm_neg ?_ ?_); (· rfl); conv => whnf)
    | fail)
  refine Go.Eng.Fn.frame [] (by rfl) (by exact trivial) (by rfl) (tally29 ?_)
  conv => whnf
  repeat' (first
    | ((with_reducible refine regx_of ?_ ?_); (· decide +kernel); conv => whnf)
    | ((with_reducible refine growx_pre ?_ ?_); (· exact ⟨_, rfl⟩); conv => whnf)
    | ((with_reducible refine needm_of ?_ ?_); (· first | assumption | exact decide_eq_true (by omega) | exact mkOK_of (by decide) | decide +kernel | (refine decide_eq_true ?_; simp (disch := omega) only [i64w]; omega)); conv => whnf)
    | ((with_reducible refine condm_pos ?_ ?_); (· assumption); conv => whnf)
    | ((with_reducible refine condm_neg ?_ ?_); (· assumption); conv => whnf)
    | ((with_reducible refine forceL_fv (by assumption) ?_); conv => whnf)
    | ((with_reducible refine forceL_rfv (by assumption) ?_); conv => whnf)
    | ((with_reducible refine forceNm_of ?_); conv => whnf)
    | ((with_reducible refine needm_of (fv_lenL (by assumption) (by assumption)) ?_); conv => whnf)
    | ((with_reducible refine optm_var (fv_strL (by assumption) (by assumption)) (fun s hs => ?_)); conv => whnf)
    | ((with_reducible refine forceA_of ?_); conv => whnf)
    | ((with_reducible refine forceL_pl (by assumption) ?_); conv => whnf)
    | ((with_reducible refine forceL_rpl (by assumption) ?_); conv => whnf)
    | ((with_reducible apply optm_of); (· first | exact g0 | exact g1 | exact g2); conv => whnf)
    | ((with_reducible refine needm_of (st12 (by assumption)) ?_); conv => whnf)
    | ((with_reducible refine needm_of (len12 (by assumption)) ?_); conv => whnf)
    | ((with_reducible refine forceL_to (store12 (by assumption)) ?_); conv => whnf)
    | ((with_reducible refine forceL_to (whole12 (by assumption)) ?_); conv => whnf)
    | ((with_reducible refine condm_pos ?_ ?_); (· rfl); conv => whnf)
    | ((with_reducible refine condm_neg ?_ ?_); (· rfl); conv => whnf)
    | fail)
  refine Go.Eng.Fn.frame [] (by rfl) (by exact trivial) (by rfl) (tally29 ?_)
  conv => whnf
  repeat' (first
    | ((with_reducible refine regx_of ?_ ?_); (· decide +kernel); conv => whnf)
    | ((with_reducible refine growx_pre ?_ ?_); (· exact ⟨_, rfl⟩); conv => whnf)
    | ((with_reducible refine needm_of ?_ ?_); (· first | assumption | exact decide_eq_true (by omega) | exact mkOK_of (by decide) | decide +kernel | (refine decide_eq_true ?_; simp (disch := omega) only [i64w]; omega)); conv => whnf)
    | ((with_reducible refine condm_pos ?_ ?_); (· assumption); conv => whnf)
    | ((with_reducible refine condm_neg ?_ ?_); (· assumption); conv => whnf)
    | ((with_reducible refine forceL_fv (by assumption) ?_); conv => whnf)
    | ((with_reducible refine forceL_rfv (by assumption) ?_); conv => whnf)
    | ((with_reducible refine forceNm_of ?_); conv => whnf)
    | ((with_reducible refine needm_of (fv_lenL (by assumption) (by assumption)) ?_); conv => whnf)
    | ((with_reducible refine optm_var (fv_strL (by assumption) (by assumption)) (fun s hs => ?_)); conv => whnf)
    | ((with_reducible refine forceA_of ?_); conv => whnf)
    | ((with_reducible refine forceL_pl (by assumption) ?_); conv => whnf)
    | ((with_reducible refine forceL_rpl (by assumption) ?_); conv => whnf)
    | ((with_reducible apply optm_of); (· first | exact g0 | exact g1 | exact g2); conv => whnf)
    | ((with_reducible refine needm_of (st12 (by assumption)) ?_); conv => whnf)
    | ((with_reducible refine needm_of (len12 (by assumption)) ?_); conv => whnf)
    | ((with_reducible refine forceL_to (store12 (by assumption)) ?_); conv => whnf)
    | ((with_reducible refine forceL_to (whole12 (by assumption)) ?_); conv => whnf)
    | ((with_reducible refine condm_pos ?_ ?_); (· rfl); conv => whnf)
    | ((with_reducible refine condm_neg ?_ ?_); (· rfl); conv => whnf)
    | fail)
  refine loopx_gen (fun F H => ∃ c, Ct c ∧ Lo c ∧ F = [(1, .a y2), (5, .a (.str (bs (toldP c)))), (6, .a (.str (bs (toldP zeros)))), (7, .a (.int .i64 (sumC c 6)))] ∧ H = []) (.exit 0) (fun F H hI => ?_) (fun Q' hQ' => ?_)
  · conv => whnf
    refine ⟨hI.mono ?_⟩
    clear hI F H
    rintro F H ⟨a, hca, hla, rfl, rfl⟩
    have hsa := sumC_le hca.lt 6
    conv => whnf
    repeat' (first
      | ((with_reducible refine regx_of ?_ ?_); (· decide +kernel); conv => whnf)
      | ((with_reducible refine growx_pre ?_ ?_); (· exact ⟨_, rfl⟩); conv => whnf)
      | ((with_reducible refine needm_of ?_ ?_); (· first | assumption | exact decide_eq_true (by omega) | exact mkOK_of (by decide) | decide +kernel | (refine decide_eq_true ?_; simp (disch := omega) only [i64w]; omega)); conv => whnf)
      | ((with_reducible refine condm_pos ?_ ?_); (· assumption); conv => whnf)
      | ((with_reducible refine condm_neg ?_ ?_); (· assumption); conv => whnf)
      | ((with_reducible refine forceL_fv (by assumption) ?_); conv => whnf)
      | ((with_reducible refine forceL_rfv (by assumption) ?_); conv => whnf)
      | ((with_reducible refine forceNm_of ?_); conv => whnf)
      | ((with_reducible refine needm_of (fv_lenL (by assumption) (by assumption)) ?_); conv => whnf)
      | ((with_reducible refine optm_var (fv_strL (by assumption) (by assumption)) (fun s hs => ?_)); conv => whnf)
      | ((with_reducible refine forceA_of ?_); conv => whnf)
      | ((with_reducible refine forceL_pl (by assumption) ?_); conv => whnf)
      | ((with_reducible refine forceL_rpl (by assumption) ?_); conv => whnf)
      | ((with_reducible apply optm_of); (· first | exact g0 | exact g1 | exact g2); conv => whnf)
      | ((with_reducible refine needm_of (st12 (by assumption)) ?_); conv => whnf)
      | ((with_reducible refine needm_of (len12 (by assumption)) ?_); conv => whnf)
      | ((with_reducible refine forceL_to (store12 (by assumption)) ?_); conv => whnf)
      | ((with_reducible refine forceL_to (whole12 (by assumption)) ?_); conv => whnf)
      | ((with_reducible refine condm_pos ?_ ?_); (· rfl); conv => whnf)
      | ((with_reducible refine condm_neg ?_ ?_); (· rfl); conv => whnf)
      | fail)
    refine Go.Eng.Fn.frame [] (by rfl) (by exact trivial) (by rfl) (asTallyT a hca ?_)
    conv => whnf
    repeat' (first
      | ((with_reducible refine regx_of ?_ ?_); (· decide +kernel); conv => whnf)
      | ((with_reducible refine growx_pre ?_ ?_); (· exact ⟨_, rfl⟩); conv => whnf)
      | ((with_reducible refine needm_of ?_ ?_); (· first | assumption | exact decide_eq_true (by omega) | exact mkOK_of (by decide) | decide +kernel | (refine decide_eq_true ?_; simp (disch := omega) only [i64w]; omega)); conv => whnf)
      | ((with_reducible refine condm_pos ?_ ?_); (· assumption); conv => whnf)
      | ((with_reducible refine condm_neg ?_ ?_); (· assumption); conv => whnf)
      | ((with_reducible refine forceL_fv (by assumption) ?_); conv => whnf)
      | ((with_reducible refine forceL_rfv (by assumption) ?_); conv => whnf)
      | ((with_reducible refine forceNm_of ?_); conv => whnf)
      | ((with_reducible refine needm_of (fv_lenL (by assumption) (by assumption)) ?_); conv => whnf)
      | ((with_reducible refine optm_var (fv_strL (by assumption) (by assumption)) (fun s hs => ?_)); conv => whnf)
      | ((with_reducible refine forceA_of ?_); conv => whnf)
      | ((with_reducible refine forceL_pl (by assumption) ?_); conv => whnf)
      | ((with_reducible refine forceL_rpl (by assumption) ?_); conv => whnf)
      | ((with_reducible apply optm_of); (· first | exact g0 | exact g1 | exact g2); conv => whnf)
      | ((with_reducible refine needm_of (st12 (by assumption)) ?_); conv => whnf)
      | ((with_reducible refine needm_of (len12 (by assumption)) ?_); conv => whnf)
      | ((with_reducible refine forceL_to (store12 (by assumption)) ?_); conv => whnf)
      | ((with_reducible refine forceL_to (whole12 (by assumption)) ?_); conv => whnf)
      | ((with_reducible refine condm_pos ?_ ?_); (· rfl); conv => whnf)
      | ((with_reducible refine condm_neg ?_ ?_); (· rfl); conv => whnf)
      | fail)
    have e1 : IntKind.i64.wrap (sumC a 6) = sumC a 6 := i64w (by omega) (by omega)
    refine condm_neg (by rw [e1]; simp) ?_
    conv => whnf
    repeat' (first
      | ((with_reducible refine regx_of ?_ ?_); (· decide +kernel); conv => whnf)
      | ((with_reducible refine growx_pre ?_ ?_); (· exact ⟨_, rfl⟩); conv => whnf)
      | ((with_reducible refine needm_of ?_ ?_); (· first | assumption | exact decide_eq_true (by omega) | exact mkOK_of (by decide) | decide +kernel | (refine decide_eq_true ?_; simp (disch := omega) only [i64w]; omega)); conv => whnf)
      | ((with_reducible refine condm_pos ?_ ?_); (· assumption); conv => whnf)
      | ((with_reducible refine condm_neg ?_ ?_); (· assumption); conv => whnf)
      | ((with_reducible refine forceL_fv (by assumption) ?_); conv => whnf)
      | ((with_reducible refine forceL_rfv (by assumption) ?_); conv => whnf)
      | ((with_reducible refine forceNm_of ?_); conv => whnf)
      | ((with_reducible refine needm_of (fv_lenL (by assumption) (by assumption)) ?_); conv => whnf)
      | ((with_reducible refine optm_var (fv_strL (by assumption) (by assumption)) (fun s hs => ?_)); conv => whnf)
      | ((with_reducible refine forceA_of ?_); conv => whnf)
      | ((with_reducible refine forceL_pl (by assumption) ?_); conv => whnf)
      | ((with_reducible refine forceL_rpl (by assumption) ?_); conv => whnf)
      | ((with_reducible apply optm_of); (· first | exact g0 | exact g1 | exact g2); conv => whnf)
      | ((with_reducible refine needm_of (st12 (by assumption)) ?_); conv => whnf)
      | ((with_reducible refine needm_of (len12 (by assumption)) ?_); conv => whnf)
      | ((with_reducible refine forceL_to (store12 (by assumption)) ?_); conv => whnf)
      | ((with_reducible refine forceL_to (whole12 (by assumption)) ?_); conv => whnf)
      | ((with_reducible refine condm_pos ?_ ?_); (· rfl); conv => whnf)
      | ((with_reducible refine condm_neg ?_ ?_); (· rfl); conv => whnf)
      | fail)
    refine loopx_gen (fun F H => ∃ b, Ct b ∧ Hi b ∧ F = [(5, .a (.str (bs (toldP a)))), (6, .a (.str (bs (toldP b)))), (7, .a (.int .i64 (sumC a 6 + sumC b 6)))] ∧ H = []) (.exit 2) (fun F H hI => ?_) (fun Q' hQ' => ?_)
    · conv => whnf
      refine ⟨hI.mono ?_⟩
      clear hI F H
      rintro F H ⟨b, hcb, hhb, rfl, rfl⟩
      have hsb := sumC_le hcb.lt 6
      conv => whnf
      repeat' (first
        | ((with_reducible refine regx_of ?_ ?_); (· decide +kernel); conv => whnf)
        | ((with_reducible refine growx_pre ?_ ?_); (· exact ⟨_, rfl⟩); conv => whnf)
        | ((with_reducible refine needm_of ?_ ?_); (· first | assumption | exact decide_eq_true (by omega) | exact mkOK_of (by decide) | decide +kernel | (refine decide_eq_true ?_; simp (disch := omega) only [i64w]; omega)); conv => whnf)
        | ((with_reducible refine condm_pos ?_ ?_); (· assumption); conv => whnf)
        | ((with_reducible refine condm_neg ?_ ?_); (· assumption); conv => whnf)
        | ((with_reducible refine forceL_fv (by assumption) ?_); conv => whnf)
        | ((with_reducible refine forceL_rfv (by assumption) ?_); conv => whnf)
        | ((with_reducible refine forceNm_of ?_); conv => whnf)
        | ((with_reducible refine needm_of (fv_lenL (by assumption) (by assumption)) ?_); conv => whnf)
        | ((with_reducible refine optm_var (fv_strL (by assumption) (by assumption)) (fun s hs => ?_)); conv => whnf)
        | ((with_reducible refine forceA_of ?_); conv => whnf)
        | ((with_reducible refine forceL_pl (by assumption) ?_); conv => whnf)
        | ((with_reducible refine forceL_rpl (by assumption) ?_); conv => whnf)
        | ((with_reducible apply optm_of); (· first | exact g0 | exact g1 | exact g2); conv => whnf)
        | ((with_reducible refine needm_of (st12 (by assumption)) ?_); conv => whnf)
        | ((with_reducible refine needm_of (len12 (by assumption)) ?_); conv => whnf)
        | ((with_reducible refine forceL_to (store12 (by assumption)) ?_); conv => whnf)
        | ((with_reducible refine forceL_to (whole12 (by assumption)) ?_); conv => whnf)
        | ((with_reducible refine condm_pos ?_ ?_); (· rfl); conv => whnf)
        | ((with_reducible refine condm_neg ?_ ?_); (· rfl); conv => whnf)
        | fail)
      refine Go.Eng.Fn.frame [] (by rfl) (by exact trivial) (by rfl) (joinT a b hca hcb ?_)
      conv => whnf
      repeat' (first
        | ((with_reducible refine regx_of ?_ ?_); (· decide +kernel); conv => whnf)
        | ((with_reducible refine growx_pre ?_ ?_); (· exact ⟨_, rfl⟩); conv => whnf)
        | ((with_reducible refine needm_of ?_ ?_); (· first | assumption | exact decide_eq_true (by omega) | exact mkOK_of (by decide) | decide +kernel | (refine decide_eq_true ?_; simp (disch := omega) only [i64w]; omega)); conv => whnf)
        | ((with_reducible refine condm_pos ?_ ?_); (· assumption); conv => whnf)
        | ((with_reducible refine condm_neg ?_ ?_); (· assumption); conv => whnf)
        | ((with_reducible refine forceL_fv (by assumption) ?_); conv => whnf)
        | ((with_reducible refine forceL_rfv (by assumption) ?_); conv => whnf)
        | ((with_reducible refine forceNm_of ?_); conv => whnf)
        | ((with_reducible refine needm_of (fv_lenL (by assumption) (by assumption)) ?_); conv => whnf)
        | ((with_reducible refine optm_var (fv_strL (by assumption) (by assumption)) (fun s hs => ?_)); conv => whnf)
        | ((with_reducible refine forceA_of ?_); conv => whnf)
        | ((with_reducible refine forceL_pl (by assumption) ?_); conv => whnf)
        | ((with_reducible refine forceL_rpl (by assumption) ?_); conv => whnf)
        | ((with_reducible apply optm_of); (· first | exact g0 | exact g1 | exact g2); conv => whnf)
        | ((with_reducible refine needm_of (st12 (by assumption)) ?_); conv => whnf)
        | ((with_reducible refine needm_of (len12 (by assumption)) ?_); conv => whnf)
        | ((with_reducible refine forceL_to (store12 (by assumption)) ?_); conv => whnf)
        | ((with_reducible refine forceL_to (whole12 (by assumption)) ?_); conv => whnf)
        | ((with_reducible refine condm_pos ?_ ?_); (· rfl); conv => whnf)
        | ((with_reducible refine condm_neg ?_ ?_); (· rfl); conv => whnf)
        | fail)
      refine Go.Eng.Fn.frame [] (by rfl) (by exact trivial) (by rfl) (asTallyT (mxC a b) (hca.mx hcb) ?_)
      conv => whnf
      repeat' (first
        | ((with_reducible refine regx_of ?_ ?_); (· decide +kernel); conv => whnf)
        | ((with_reducible refine growx_pre ?_ ?_); (· exact ⟨_, rfl⟩); conv => whnf)
        | ((with_reducible refine needm_of ?_ ?_); (· first | assumption | exact decide_eq_true (by omega) | exact mkOK_of (by decide) | decide +kernel | (refine decide_eq_true ?_; simp (disch := omega) only [i64w]; omega)); conv => whnf)
        | ((with_reducible refine condm_pos ?_ ?_); (· assumption); conv => whnf)
        | ((with_reducible refine condm_neg ?_ ?_); (· assumption); conv => whnf)
        | ((with_reducible refine forceL_fv (by assumption) ?_); conv => whnf)
        | ((with_reducible refine forceL_rfv (by assumption) ?_); conv => whnf)
        | ((with_reducible refine forceNm_of ?_); conv => whnf)
        | ((with_reducible refine needm_of (fv_lenL (by assumption) (by assumption)) ?_); conv => whnf)
        | ((with_reducible refine optm_var (fv_strL (by assumption) (by assumption)) (fun s hs => ?_)); conv => whnf)
        | ((with_reducible refine forceA_of ?_); conv => whnf)
        | ((with_reducible refine forceL_pl (by assumption) ?_); conv => whnf)
        | ((with_reducible refine forceL_rpl (by assumption) ?_); conv => whnf)
        | ((with_reducible apply optm_of); (· first | exact g0 | exact g1 | exact g2); conv => whnf)
        | ((with_reducible refine needm_of (st12 (by assumption)) ?_); conv => whnf)
        | ((with_reducible refine needm_of (len12 (by assumption)) ?_); conv => whnf)
        | ((with_reducible refine forceL_to (store12 (by assumption)) ?_); conv => whnf)
        | ((with_reducible refine forceL_to (whole12 (by assumption)) ?_); conv => whnf)
        | ((with_reducible refine condm_pos ?_ ?_); (· rfl); conv => whnf)
        | ((with_reducible refine condm_neg ?_ ?_); (· rfl); conv => whnf)
        | fail)
      rw [sumC_mx hca hcb hla hhb]
      have e2 : IntKind.i64.wrap (sumC a 6 + sumC b 6) = sumC a 6 + sumC b 6 := i64w (by omega) (by omega)
      generalize sumC a 6 + sumC b 6 = z at *
      conv => whnf
      repeat' (first
        | ((with_reducible refine regx_of ?_ ?_); (· decide +kernel); conv => whnf)
        | ((with_reducible refine growx_pre ?_ ?_); (· exact ⟨_, rfl⟩); conv => whnf)
        | ((with_reducible refine needm_of ?_ ?_); (· first | assumption | exact decide_eq_true (by omega) | exact mkOK_of (by decide) | decide +kernel | (refine decide_eq_true ?_; simp (disch := omega) only [i64w]; omega)); conv => whnf)
        | ((with_reducible refine condm_pos ?_ ?_); (· assumption); conv => whnf)
        | ((with_reducible refine condm_neg ?_ ?_); (· assumption); conv => whnf)
        | ((with_reducible refine forceL_fv (by assumption) ?_); conv => whnf)
        | ((with_reducible refine forceL_rfv (by assumption) ?_); conv => whnf)
        | ((with_reducible refine forceNm_of ?_); conv => whnf)
        | ((with_reducible refine needm_of (fv_lenL (by assumption) (by assumption)) ?_); conv => whnf)
        | ((with_reducible refine optm_var (fv_strL (by assumption) (by assumption)) (fun s hs => ?_)); conv => whnf)
        | ((with_reducible refine forceA_of ?_); conv => whnf)
        | ((with_reducible refine forceL_pl (by assumption) ?_); conv => whnf)
        | ((with_reducible refine forceL_rpl (by assumption) ?_); conv => whnf)
        | ((with_reducible apply optm_of); (· first | exact g0 | exact g1 | exact g2); conv => whnf)
        | ((with_reducible refine needm_of (st12 (by assumption)) ?_); conv => whnf)
        | ((with_reducible refine needm_of (len12 (by assumption)) ?_); conv => whnf)
        | ((with_reducible refine forceL_to (store12 (by assumption)) ?_); conv => whnf)
        | ((with_reducible refine forceL_to (whole12 (by assumption)) ?_); conv => whnf)
        | ((with_reducible refine condm_pos ?_ ?_); (· rfl); conv => whnf)
        | ((with_reducible refine condm_neg ?_ ?_); (· rfl); conv => whnf)
        | fail)
      rw [e2]
      have e3 : (z == z) = true := by simp
      conv => whnf
      repeat' (first
        | ((with_reducible refine regx_of ?_ ?_); (· decide +kernel); conv => whnf)
        | ((with_reducible refine growx_pre ?_ ?_); (· exact ⟨_, rfl⟩); conv => whnf)
        | ((with_reducible refine needm_of ?_ ?_); (· first | assumption | exact decide_eq_true (by omega) | exact mkOK_of (by decide) | decide +kernel | (refine decide_eq_true ?_; simp (disch := omega) only [i64w]; omega)); conv => whnf)
        | ((with_reducible refine condm_pos ?_ ?_); (· assumption); conv => whnf)
        | ((with_reducible refine condm_neg ?_ ?_); (· assumption); conv => whnf)
        | ((with_reducible refine forceL_fv (by assumption) ?_); conv => whnf)
        | ((with_reducible refine forceL_rfv (by assumption) ?_); conv => whnf)
        | ((with_reducible refine forceNm_of ?_); conv => whnf)
        | ((with_reducible refine needm_of (fv_lenL (by assumption) (by assumption)) ?_); conv => whnf)
        | ((with_reducible refine optm_var (fv_strL (by assumption) (by assumption)) (fun s hs => ?_)); conv => whnf)
        | ((with_reducible refine forceA_of ?_); conv => whnf)
        | ((with_reducible refine forceL_pl (by assumption) ?_); conv => whnf)
        | ((with_reducible refine forceL_rpl (by assumption) ?_); conv => whnf)
        | ((with_reducible apply optm_of); (· first | exact g0 | exact g1 | exact g2); conv => whnf)
        | ((with_reducible refine needm_of (st12 (by assumption)) ?_); conv => whnf)
        | ((with_reducible refine needm_of (len12 (by assumption)) ?_); conv => whnf)
        | ((with_reducible refine forceL_to (store12 (by assumption)) ?_); conv => whnf)
        | ((with_reducible refine forceL_to (whole12 (by assumption)) ?_); conv => whnf)
        | ((with_reducible refine condm_pos ?_ ?_); (· rfl); conv => whnf)
        | ((with_reducible refine condm_neg ?_ ?_); (· rfl); conv => whnf)
        | fail)
      refine Go.Eng.Fn.frame [] (by rfl) (by exact trivial) (by rfl) (alive25 ?_)
      conv => whnf
      repeat' (first
        | ((with_reducible refine regx_of ?_ ?_); (· decide +kernel); conv => whnf)
        | ((with_reducible refine growx_pre ?_ ?_); (· exact ⟨_, rfl⟩); conv => whnf)
        | ((with_reducible refine needm_of ?_ ?_); (· first | assumption | exact decide_eq_true (by omega) | exact mkOK_of (by decide) | decide +kernel | (refine decide_eq_true ?_; simp (disch := omega) only [i64w]; omega)); conv => whnf)
        | ((with_reducible refine condm_pos ?_ ?_); (· assumption); conv => whnf)
        | ((with_reducible refine condm_neg ?_ ?_); (· assumption); conv => whnf)
        | ((with_reducible refine forceL_fv (by assumption) ?_); conv => whnf)
        | ((with_reducible refine forceL_rfv (by assumption) ?_); conv => whnf)
        | ((with_reducible refine forceNm_of ?_); conv => whnf)
        | ((with_reducible refine needm_of (fv_lenL (by assumption) (by assumption)) ?_); conv => whnf)
        | ((with_reducible refine optm_var (fv_strL (by assumption) (by assumption)) (fun s hs => ?_)); conv => whnf)
        | ((with_reducible refine forceA_of ?_); conv => whnf)
        | ((with_reducible refine forceL_pl (by assumption) ?_); conv => whnf)
        | ((with_reducible refine forceL_rpl (by assumption) ?_); conv => whnf)
        | ((with_reducible apply optm_of); (· first | exact g0 | exact g1 | exact g2); conv => whnf)
        | ((with_reducible refine needm_of (st12 (by assumption)) ?_); conv => whnf)
        | ((with_reducible refine needm_of (len12 (by assumption)) ?_); conv => whnf)
        | ((with_reducible refine forceL_to (store12 (by assumption)) ?_); conv => whnf)
        | ((with_reducible refine forceL_to (whole12 (by assumption)) ?_); conv => whnf)
        | ((with_reducible refine condm_pos ?_ ?_); (· rfl); conv => whnf)
        | ((with_reducible refine condm_neg ?_ ?_); (· rfl); conv => whnf)
        | fail)
    · have z0 : sumC a 6 + sumC zeros 6 = sumC a 6 := by
        have : sumC zeros 6 = 0 := rfl
        omega
      rcases id hG2 with ⟨rfl, rfl, _⟩ | ⟨p, rfl, hlc, hcm, _⟩
      · refine loopx_iter 1 ?_
        conv => whnf
        repeat' (first
          | ((with_reducible refine regx_of ?_ ?_); (· decide +kernel); conv => whnf)
          | ((with_reducible refine growx_pre ?_ ?_); (· exact ⟨_, rfl⟩); conv => whnf)
          | ((with_reducible refine needm_of ?_ ?_); (· first | assumption | exact decide_eq_true (by omega) | exact mkOK_of (by decide) | decide +kernel | (refine decide_eq_true ?_; simp (disch := omega) only [i64w]; omega)); conv => whnf)
          | ((with_reducible refine condm_pos ?_ ?_); (· assumption); conv => whnf)
          | ((with_reducible refine condm_neg ?_ ?_); (· assumption); conv => whnf)
          | ((with_reducible refine forceL_fv (by assumption) ?_); conv => whnf)
          | ((with_reducible refine forceL_rfv (by assumption) ?_); conv => whnf)
          | ((with_reducible refine forceNm_of ?_); conv => whnf)
          | ((with_reducible refine needm_of (fv_lenL (by assumption) (by assumption)) ?_); conv => whnf)
          | ((with_reducible refine optm_var (fv_strL (by assumption) (by assumption)) (fun s hs => ?_)); conv => whnf)
          | ((with_reducible refine forceA_of ?_); conv => whnf)
          | ((with_reducible refine forceL_pl (by assumption) ?_); conv => whnf)
          | ((with_reducible refine forceL_rpl (by assumption) ?_); conv => whnf)
          | ((with_reducible apply optm_of); (· first | exact g0 | exact g1 | exact g2); conv => whnf)
          | ((with_reducible refine needm_of (st12 (by assumption)) ?_); conv => whnf)
          | ((with_reducible refine needm_of (len12 (by assumption)) ?_); conv => whnf)
          | ((with_reducible refine forceL_to (store12 (by assumption)) ?_); conv => whnf)
          | ((with_reducible refine forceL_to (whole12 (by assumption)) ?_); conv => whnf)
          | ((with_reducible refine condm_pos ?_ ?_); (· rfl); conv => whnf)
          | ((with_reducible refine condm_neg ?_ ?_); (· rfl); conv => whnf)
          | fail)
        exact hQ' _ _ (Into.weak [] [(5, .a (.str (bs (toldP a)))), (6, .a (.str (bs (toldP zeros)))), (7, .a (.int .i64 (sumC a 6 + sumC zeros 6)))] [] ⟨zeros, Ct.zeros, hi_zeros, rfl, rfl⟩ ⟨rfl, rfl, congrArg (fun z => some (V.a (.int .i64 z))) z0.symm, trivial⟩ trivial rfl)
      · refine loopx_of (fun m F H => ∃ (i : Nat) (c : List Nat), i ≤ len2 ∧ m = len2 - i ∧ Ct c ∧ Hi c ∧ F = [(1, .a (.rslc p len2 cap2)), (5, .a (.str (bs (toldP a)))), (6, .a (.str (bs (toldP c)))), (7, .a (.int .i64 (sumC a 6 + sumC c 6))), (14, .a (.int .i64 i))] ∧ H = []) len2 ?_ ?_
        · exact Into.weak [] [(1, .a (.rslc p len2 cap2)), (5, .a (.str (bs (toldP a)))), (6, .a (.str (bs (toldP zeros)))), (7, .a (.int .i64 (sumC a 6 + sumC zeros 6))), (14, .a (.int .i64 (0 : Nat)))] [] ⟨0, zeros, Nat.zero_le _, rfl, Ct.zeros, hi_zeros, rfl, rfl⟩ ⟨rfl, rfl, rfl, congrArg (fun z => some (V.a (.int .i64 z))) z0.symm, rfl, trivial⟩ trivial rfl
        · rintro m F H ⟨i, c, hi, rfl, hc, hhi, rfl, rfl⟩
          have hend := fun F H hh => hQ' F H (Into.weak [] [(5, .a (.str (bs (toldP a)))), (6, .a (.str (bs (toldP c)))), (7, .a (.int .i64 (sumC a 6 + sumC c 6)))] [] ⟨c, hc, hhi, rfl, rfl⟩ hh trivial rfl)
          by_cases hil : i < len2
          · have d1 : decide ((i : Int) < (len2 : Int)) = true := decide_eq_true (by omega)
            by_cases h40 : i < 40
            · have d2 : decide ((i : Int) < 40) = true := decide_eq_true (by omega)
              obtain ⟨hf, hro⟩ := hG2.get hil
              unfold KCo at hf
              obtain ⟨rep, r0, e0, b0, f0⟩ := Fits.int hf
              obtain ⟨b, r1, rfl, b1, f1⟩ := Fits.int f0
              obtain rfl := Fits.nil f1
              rw [e0] at hro
              have ld : ∀ j y, ([.int .u8 rep, .int .i16 b] : List A)[j]? = some y → roOf W ((p.add (i * 2)).add j) y := fun j y h => by rw [addr_add_add]; exact hro j y h
              conv => whnf
              repeat' (first
                | ((with_reducible refine regx_of ?_ ?_); (· decide +kernel); conv => whnf)
                | ((with_reducible refine growx_pre ?_ ?_); (· exact ⟨_, rfl⟩); conv => whnf)
                | ((with_reducible refine needm_of ?_ ?_); (· first | assumption | exact decide_eq_true (by omega) | exact mkOK_of (by decide) | decide +kernel | (refine decide_eq_true ?_; simp (disch := omega) only [i64w]; omega)); conv => whnf)
                | ((with_reducible refine condm_pos ?_ ?_); (· assumption); conv => whnf)
                | ((with_reducible refine condm_neg ?_ ?_); (· assumption); conv => whnf)
                | ((with_reducible refine forceL_fv (by assumption) ?_); conv => whnf)
                | ((with_reducible refine forceL_rfv (by assumption) ?_); conv => whnf)
                | ((with_reducible refine forceNm_of ?_); conv => whnf)
                | ((with_reducible refine needm_of (fv_lenL (by assumption) (by assumption)) ?_); conv => whnf)
                | ((with_reducible refine optm_var (fv_strL (by assumption) (by assumption)) (fun s hs => ?_)); conv => whnf)
                | ((with_reducible refine forceA_of ?_); conv => whnf)
                | ((with_reducible refine forceL_pl (by assumption) ?_); conv => whnf)
                | ((with_reducible refine forceL_rpl (by assumption) ?_); conv => whnf)
                | ((with_reducible apply optm_of); (· first | exact g0 | exact g1 | exact g2); conv => whnf)
                | ((with_reducible refine needm_of (st12 (by assumption)) ?_); conv => whnf)
                | ((with_reducible refine needm_of (len12 (by assumption)) ?_); conv => whnf)
                | ((with_reducible refine forceL_to (store12 (by assumption)) ?_); conv => whnf)
                | ((with_reducible refine forceL_to (whole12 (by assumption)) ?_); conv => whnf)
                | ((with_reducible refine condm_pos ?_ ?_); (· rfl); conv => whnf)
                | ((with_reducible refine condm_neg ?_ ?_); (· rfl); conv => whnf)
                | fail)
              refine ⟨[.int .u8 rep, .int .i16 b], rfl, ld, ?_⟩
              conv => whnf
              repeat' (first
                | ((with_reducible refine regx_of ?_ ?_); (· decide +kernel); conv => whnf)
                | ((with_reducible refine growx_pre ?_ ?_); (· exact ⟨_, rfl⟩); conv => whnf)
                | ((with_reducible refine needm_of ?_ ?_); (· first | assumption | exact decide_eq_true (by omega) | exact mkOK_of (by decide) | decide +kernel | (refine decide_eq_true ?_; simp (disch := omega) only [i64w]; omega)); conv => whnf)
                | ((with_reducible refine condm_pos ?_ ?_); (· assumption); conv => whnf)
                | ((with_reducible refine condm_neg ?_ ?_); (· assumption); conv => whnf)
                | ((with_reducible refine forceL_fv (by assumption) ?_); conv => whnf)
                | ((with_reducible refine forceL_rfv (by assumption) ?_); conv => whnf)
                | ((with_reducible refine forceNm_of ?_); conv => whnf)
                | ((with_reducible refine needm_of (fv_lenL (by assumption) (by assumption)) ?_); conv => whnf)
                | ((with_reducible refine optm_var (fv_strL (by assumption) (by assumption)) (fun s hs => ?_)); conv => whnf)
                | ((with_reducible refine forceA_of ?_); conv => whnf)
                | ((with_reducible refine forceL_pl (by assumption) ?_); conv => whnf)
                | ((with_reducible refine forceL_rpl (by assumption) ?_); conv => whnf)
                | ((with_reducible apply optm_of); (· first | exact g0 | exact g1 | exact g2); conv => whnf)
                | ((with_reducible refine needm_of (st12 (by assumption)) ?_); conv => whnf)
                | ((with_reducible refine needm_of (len12 (by assumption)) ?_); conv => whnf)
                | ((with_reducible refine forceL_to (store12 (by assumption)) ?_); conv => whnf)
                | ((with_reducible refine forceL_to (whole12 (by assumption)) ?_); conv => whnf)
                | ((with_reducible refine condm_pos ?_ ?_); (· rfl); conv => whnf)
                | ((with_reducible refine condm_neg ?_ ?_); (· rfl); conv => whnf)
                | fail)
              have b0' : 0 ≤ rep ∧ rep ≤ 255 := b0
              obtain ⟨r, hr⟩ : ∃ r : Nat, r = rep.toNat % 3 + 3 := ⟨_, rfl⟩
              have hr15 : 3 ≤ r ∧ r ≤ 5 := by omega
              have hrw : IntKind.u8.wrap (rep.tmod 3 + 3) = (r : Int) := by
                obtain ⟨q, rfl⟩ : ∃ q : Nat, rep = q := ⟨rep.toNat, by omega⟩
                have e : (q : Int).tmod 3 = ((q % 3 : Nat) : Int) := tmodN q 3
                rw [e, hr, Int.toNat_natCast]
                rw [show ((q % 3 : Nat) : Int) + 3 = ((q % 3 + 3 : Nat) : Int) by omega, u8w (by omega)]
              rw [hrw]
              have hw : IntKind.i64.wrap (↑i + 1) = ((i + 1 : Nat) : Int) := by rw [i64w (by omega) (by omega)]; rfl
              have hbb : -32768 ≤ b ∧ b ≤ 32767 := b1
              refine Go.Eng.Fn.frame [] (by rfl) (by exact trivial) (by rfl) (stepT c hc r ⟨by omega, by omega⟩ b hbb (fun u h1 h2 => ?_) (fun u h1 h2 => ?_))
              · skip
                conv => whnf
                repeat' (first
                  | ((with_reducible refine regx_of ?_ ?_); (· decide +kernel); conv => whnf)
                  | ((with_reducible refine growx_pre ?_ ?_); (· exact ⟨_, rfl⟩); conv => whnf)
                  | ((with_reducible refine needm_of ?_ ?_); (· first | assumption | exact decide_eq_true (by omega) | exact mkOK_of (by decide) | decide +kernel | (refine decide_eq_true ?_; simp (disch := omega) only [i64w]; omega)); conv => whnf)
                  | ((with_reducible refine condm_pos ?_ ?_); (· assumption); conv => whnf)
                  | ((with_reducible refine condm_neg ?_ ?_); (· assumption); conv => whnf)
                  | ((with_reducible refine forceL_fv (by assumption) ?_); conv => whnf)
                  | ((with_reducible refine forceL_rfv (by assumption) ?_); conv => whnf)
                  | ((with_reducible refine forceNm_of ?_); conv => whnf)
                  | ((with_reducible refine needm_of (fv_lenL (by assumption) (by assumption)) ?_); conv => whnf)
                  | ((with_reducible refine optm_var (fv_strL (by assumption) (by assumption)) (fun s hs => ?_)); conv => whnf)
                  | ((with_reducible refine forceA_of ?_); conv => whnf)
                  | ((with_reducible refine forceL_pl (by assumption) ?_); conv => whnf)
                  | ((with_reducible refine forceL_rpl (by assumption) ?_); conv => whnf)
                  | ((with_reducible apply optm_of); (· first | exact g0 | exact g1 | exact g2); conv => whnf)
                  | ((with_reducible refine needm_of (st12 (by assumption)) ?_); conv => whnf)
                  | ((with_reducible refine needm_of (len12 (by assumption)) ?_); conv => whnf)
                  | ((with_reducible refine forceL_to (store12 (by assumption)) ?_); conv => whnf)
                  | ((with_reducible refine forceL_to (whole12 (by assumption)) ?_); conv => whnf)
                  | ((with_reducible refine condm_pos ?_ ?_); (· rfl); conv => whnf)
                  | ((with_reducible refine condm_neg ?_ ?_); (· rfl); conv => whnf)
                  | fail)
                exact ⟨len2 - (i + 1), by omega, Into.weak [] [(1, .a (.rslc p len2 cap2)), (5, .a (.str (bs (toldP a)))), (6, .a (.str (bs (toldP c)))), (7, .a (.int .i64 (sumC a 6 + sumC c 6))), (14, .a (.int .i64 ((i + 1 : Nat) : Int)))] [] ⟨i + 1, c, by omega, rfl, hc, hhi, rfl, rfl⟩ ⟨rfl, rfl, rfl, rfl, congrArg (fun z => some (V.a (.int .i64 z))) hw, trivial⟩ trivial rfl⟩
              · obtain ⟨w, hwd⟩ : ∃ w : Nat, w = if b < 0 then 1 else 0 := ⟨_, rfl⟩
                rw [← hwd] at h1 ⊢
                have hw2 : w < 2 := by rw [hwd]; split <;> decide
                obtain ⟨c', hc'⟩ : ∃ c', c' = c.set (r * 2 + w) (b.natAbs + u) := ⟨_, rfl⟩
                have hct : Ct c' := by rw [hc']; exact hc.set (by omega) (by omega)
                have hhi' : Hi c' := by rw [hc']; exact hhi.set (by omega)
                have hsum : sumC c' 6 = sumC c 6 + b := by
                  rw [hc', sumC_set hc ⟨by omega, by omega⟩ hw2 h1, hwd]
                  by_cases hb0 : b < 0
                  · rw [if_pos hb0, if_neg (by decide)]; omega
                  · rw [if_neg hb0, if_pos rfl]; omega
                rw [← hc']
                clear hend
                have hsc := sumC_le hc.lt 6
                have hsc' := sumC_le hct.lt 6
                conv => whnf
                repeat' (first
                  | ((with_reducible refine regx_of ?_ ?_); (· decide +kernel); conv => whnf)
                  | ((with_reducible refine growx_pre ?_ ?_); (· exact ⟨_, rfl⟩); conv => whnf)
                  | ((with_reducible refine needm_of ?_ ?_); (· first | assumption | exact decide_eq_true (by omega) | exact mkOK_of (by decide) | decide +kernel | (refine decide_eq_true ?_; simp (disch := omega) only [i64w]; omega)); conv => whnf)
                  | ((with_reducible refine condm_pos ?_ ?_); (· assumption); conv => whnf)
                  | ((with_reducible refine condm_neg ?_ ?_); (· assumption); conv => whnf)
                  | ((with_reducible refine forceL_fv (by assumption) ?_); conv => whnf)
                  | ((with_reducible refine forceL_rfv (by assumption) ?_); conv => whnf)
                  | ((with_reducible refine forceNm_of ?_); conv => whnf)
                  | ((with_reducible refine needm_of (fv_lenL (by assumption) (by assumption)) ?_); conv => whnf)
                  | ((with_reducible refine optm_var (fv_strL (by assumption) (by assumption)) (fun s hs => ?_)); conv => whnf)
                  | ((with_reducible refine forceA_of ?_); conv => whnf)
                  | ((with_reducible refine forceL_pl (by assumption) ?_); conv => whnf)
                  | ((with_reducible refine forceL_rpl (by assumption) ?_); conv => whnf)
                  | ((with_reducible apply optm_of); (· first | exact g0 | exact g1 | exact g2); conv => whnf)
                  | ((with_reducible refine needm_of (st12 (by assumption)) ?_); conv => whnf)
                  | ((with_reducible refine needm_of (len12 (by assumption)) ?_); conv => whnf)
                  | ((with_reducible refine forceL_to (store12 (by assumption)) ?_); conv => whnf)
                  | ((with_reducible refine forceL_to (whole12 (by assumption)) ?_); conv => whnf)
                  | ((with_reducible refine condm_pos ?_ ?_); (· rfl); conv => whnf)
                  | ((with_reducible refine condm_neg ?_ ?_); (· rfl); conv => whnf)
                  | fail)
                have hv : IntKind.i64.wrap (sumC a 6 + sumC c 6 + IntKind.i64.wrap b) = sumC a 6 + sumC c' 6 := by
                  rw [i64w (x := b) (by omega) (by omega), i64w (by omega) (by omega), hsum]; omega
                exact ⟨len2 - (i + 1), by omega, Into.weak [] [(1, .a (.rslc p len2 cap2)), (5, .a (.str (bs (toldP a)))), (6, .a (.str (bs (toldP c')))), (7, .a (.int .i64 (sumC a 6 + sumC c' 6))), (14, .a (.int .i64 ((i + 1 : Nat) : Int)))] [] ⟨i + 1, c', by omega, rfl, hct, hhi', rfl, rfl⟩ ⟨rfl, rfl, rfl, congrArg (fun z => some (V.a (.int .i64 z))) hv, congrArg (fun z => some (V.a (.int .i64 z))) hw, trivial⟩ trivial rfl⟩
            · have d2 : decide ((i : Int) < 40) = false := decide_eq_false (by omega)
              conv => whnf
              repeat' (first
                | ((with_reducible refine regx_of ?_ ?_); (· decide +kernel); conv => whnf)
                | ((with_reducible refine growx_pre ?_ ?_); (· exact ⟨_, rfl⟩); conv => whnf)
                | ((with_reducible refine needm_of ?_ ?_); (· first | assumption | exact decide_eq_true (by omega) | exact mkOK_of (by decide) | decide +kernel | (refine decide_eq_true ?_; simp (disch := omega) only [i64w]; omega)); conv => whnf)
                | ((with_reducible refine condm_pos ?_ ?_); (· assumption); conv => whnf)
                | ((with_reducible refine condm_neg ?_ ?_); (· assumption); conv => whnf)
                | ((with_reducible refine forceL_fv (by assumption) ?_); conv => whnf)
                | ((with_reducible refine forceL_rfv (by assumption) ?_); conv => whnf)
                | ((with_reducible refine forceNm_of ?_); conv => whnf)
                | ((with_reducible refine needm_of (fv_lenL (by assumption) (by assumption)) ?_); conv => whnf)
                | ((with_reducible refine optm_var (fv_strL (by assumption) (by assumption)) (fun s hs => ?_)); conv => whnf)
                | ((with_reducible refine forceA_of ?_); conv => whnf)
                | ((with_reducible refine forceL_pl (by assumption) ?_); conv => whnf)
                | ((with_reducible refine forceL_rpl (by assumption) ?_); conv => whnf)
                | ((with_reducible apply optm_of); (· first | exact g0 | exact g1 | exact g2); conv => whnf)
                | ((with_reducible refine needm_of (st12 (by assumption)) ?_); conv => whnf)
                | ((with_reducible refine needm_of (len12 (by assumption)) ?_); conv => whnf)
                | ((with_reducible refine forceL_to (store12 (by assumption)) ?_); conv => whnf)
                | ((with_reducible refine forceL_to (whole12 (by assumption)) ?_); conv => whnf)
                | ((with_reducible refine condm_pos ?_ ?_); (· rfl); conv => whnf)
                | ((with_reducible refine condm_neg ?_ ?_); (· rfl); conv => whnf)
                | fail)
              exact hend _ _ ⟨rfl, rfl, rfl, trivial⟩
          · have d1 : decide ((i : Int) < (len2 : Int)) = false := decide_eq_false (by omega)
            conv => whnf
            repeat' (first
              | ((with_reducible refine regx_of ?_ ?_); (· decide +kernel); conv => whnf)
              | ((with_reducible refine growx_pre ?_ ?_); (· exact ⟨_, rfl⟩); conv => whnf)
              | ((with_reducible refine needm_of ?_ ?_); (· first | assumption | exact decide_eq_true (by omega) | exact mkOK_of (by decide) | decide +kernel | (refine decide_eq_true ?_; simp (disch := omega) only [i64w]; omega)); conv => whnf)
              | ((with_reducible refine condm_pos ?_ ?_); (· assumption); conv => whnf)
              | ((with_reducible refine condm_neg ?_ ?_); (· assumption); conv => whnf)
              | ((with_reducible refine forceL_fv (by assumption) ?_); conv => whnf)
              | ((with_reducible refine forceL_rfv (by assumption) ?_); conv => whnf)
              | ((with_reducible refine forceNm_of ?_); conv => whnf)
              | ((with_reducible refine needm_of (fv_lenL (by assumption) (by assumption)) ?_); conv => whnf)
              | ((with_reducible refine optm_var (fv_strL (by assumption) (by assumption)) (fun s hs => ?_)); conv => whnf)
              | ((with_reducible refine forceA_of ?_); conv => whnf)
              | ((with_reducible refine forceL_pl (by assumption) ?_); conv => whnf)
              | ((with_reducible refine forceL_rpl (by assumption) ?_); conv => whnf)
              | ((with_reducible apply optm_of); (· first | exact g0 | exact g1 | exact g2); conv => whnf)
              | ((with_reducible refine needm_of (st12 (by assumption)) ?_); conv => whnf)
              | ((with_reducible refine needm_of (len12 (by assumption)) ?_); conv => whnf)
              | ((with_reducible refine forceL_to (store12 (by assumption)) ?_); conv => whnf)
              | ((with_reducible refine forceL_to (whole12 (by assumption)) ?_); conv => whnf)
              | ((with_reducible refine condm_pos ?_ ?_); (· rfl); conv => whnf)
              | ((with_reducible refine condm_neg ?_ ?_); (· rfl); conv => whnf)
              | fail)
            exact hend _ _ ⟨rfl, rfl, rfl, trivial⟩
  · rcases id hG with ⟨rfl, rfl, _⟩ | ⟨p, rfl, hlc, hcm, _⟩
    · refine loopx_iter 1 ?_
      conv => whnf
      repeat' (first
        | ((with_reducible refine regx_of ?_ ?_); (· decide +kernel); conv => whnf)
        | ((with_reducible refine growx_pre ?_ ?_); (· exact ⟨_, rfl⟩); conv => whnf)
        | ((with_reducible refine needm_of ?_ ?_); (· first | assumption | exact decide_eq_true (by omega) | exact mkOK_of (by decide) | decide +kernel | (refine decide_eq_true ?_; simp (disch := omega) only [i64w]; omega)); conv => whnf)
        | ((with_reducible refine condm_pos ?_ ?_); (· assumption); conv => whnf)
        | ((with_reducible refine condm_neg ?_ ?_); (· assumption); conv => whnf)
        | ((with_reducible refine forceL_fv (by assumption) ?_); conv => whnf)
        | ((with_reducible refine forceL_rfv (by assumption) ?_); conv => whnf)
        | ((with_reducible refine forceNm_of ?_); conv => whnf)
        | ((with_reducible refine needm_of (fv_lenL (by assumption) (by assumption)) ?_); conv => whnf)
        | ((with_reducible refine optm_var (fv_strL (by assumption) (by assumption)) (fun s hs => ?_)); conv => whnf)
        | ((with_reducible refine forceA_of ?_); conv => whnf)
        | ((with_reducible refine forceL_pl (by assumption) ?_); conv => whnf)
        | ((with_reducible refine forceL_rpl (by assumption) ?_); conv => whnf)
        | ((with_reducible apply optm_of); (· first | exact g0 | exact g1 | exact g2); conv => whnf)
        | ((with_reducible refine needm_of (st12 (by assumption)) ?_); conv => whnf)
        | ((with_reducible refine needm_of (len12 (by assumption)) ?_); conv => whnf)
        | ((with_reducible refine forceL_to (store12 (by assumption)) ?_); conv => whnf)
        | ((with_reducible refine forceL_to (whole12 (by assumption)) ?_); conv => whnf)
        | ((with_reducible refine condm_pos ?_ ?_); (· rfl); conv => whnf)
        | ((with_reducible refine condm_neg ?_ ?_); (· rfl); conv => whnf)
        | fail)
      exact hQ' _ _ (Into.weak [] [(1, .a y2), (5, .a (.str (bs (toldP zeros)))), (6, .a (.str (bs (toldP zeros)))), (7, .a (.int .i64 (sumC zeros 6)))] [] ⟨zeros, Ct.zeros, lo_zeros, rfl, rfl⟩ ⟨hy2.1 _, rfl, rfl, rfl, trivial⟩ trivial (by simp [nodupb, baseb, frmOk, V.okb, A.okb, hy2.2]))
    · refine loopx_of (fun m F H => ∃ (i : Nat) (c : List Nat), i ≤ len ∧ m = len - i ∧ Ct c ∧ Lo c ∧ F = [(0, .a (.rslc p len cap)), (1, .a y2), (5, .a (.str (bs (toldP c)))), (6, .a (.str (bs (toldP zeros)))), (7, .a (.int .i64 (sumC c 6))), (8, .a (.int .i64 i))] ∧ H = []) len ?_ ?_
      · exact Into.weak [] [(0, .a (.rslc p len cap)), (1, .a y2), (5, .a (.str (bs (toldP zeros)))), (6, .a (.str (bs (toldP zeros)))), (7, .a (.int .i64 (sumC zeros 6))), (8, .a (.int .i64 (0 : Nat)))] [] ⟨0, zeros, Nat.zero_le _, rfl, Ct.zeros, lo_zeros, rfl, rfl⟩ ⟨rfl, hy2.1 _, rfl, rfl, rfl, rfl, trivial⟩ trivial (by simp [nodupb, baseb, frmOk, V.okb, A.okb, hy2.2])
      · rintro m F H ⟨i, c, hi, rfl, hc, hlo, rfl, rfl⟩
        have hend := fun F H hh => hQ' F H (Into.weak [] [(1, .a y2), (5, .a (.str (bs (toldP c)))), (6, .a (.str (bs (toldP zeros)))), (7, .a (.int .i64 (sumC c 6)))] [] ⟨c, hc, hlo, rfl, rfl⟩ hh trivial (by simp [nodupb, baseb, frmOk, V.okb, A.okb, hy2.2]))
        by_cases hil : i < len
        · have d1 : decide ((i : Int) < (len : Int)) = true := decide_eq_true (by omega)
          by_cases h40 : i < 40
          · have d2 : decide ((i : Int) < 40) = true := decide_eq_true (by omega)
            obtain ⟨hf, hro⟩ := hG.get hil
            unfold KCo at hf
            obtain ⟨rep, r0, e0, b0, f0⟩ := Fits.int hf
            obtain ⟨b, r1, rfl, b1, f1⟩ := Fits.int f0
            obtain rfl := Fits.nil f1
            rw [e0] at hro
            have ld : ∀ j y, ([.int .u8 rep, .int .i16 b] : List A)[j]? = some y → roOf W ((p.add (i * 2)).add j) y := fun j y h => by rw [addr_add_add]; exact hro j y h
            conv => whnf
            repeat' (first
              | ((with_reducible refine regx_of ?_ ?_); (· decide +kernel); conv => whnf)
              | ((with_reducible refine growx_pre ?_ ?_); (· exact ⟨_, rfl⟩); conv => whnf)
              | ((with_reducible refine needm_of ?_ ?_); (· first | assumption | exact decide_eq_true (by omega) | exact mkOK_of (by decide) | decide +kernel | (refine decide_eq_true ?_; simp (disch := omega) only [i64w]; omega)); conv => whnf)
              | ((with_reducible refine condm_pos ?_ ?_); (· assumption); conv => whnf)
              | ((with_reducible refine condm_neg ?_ ?_); (· assumption); conv => whnf)
              | ((with_reducible refine forceL_fv (by assumption) ?_); conv => whnf)
              | ((with_reducible refine forceL_rfv (by assumption) ?_); conv => whnf)
              | ((with_reducible refine forceNm_of ?_); conv => whnf)
              | ((with_reducible refine needm_of (fv_lenL (by assumption) (by assumption)) ?_); conv => whnf)
              | ((with_reducible refine optm_var (fv_strL (by assumption) (by assumption)) (fun s hs => ?_)); conv => whnf)
              | ((with_reducible refine forceA_of ?_); conv => whnf)
              | ((with_reducible refine forceL_pl (by assumption) ?_); conv => whnf)
              | ((with_reducible refine forceL_rpl (by assumption) ?_); conv => whnf)
              | ((with_reducible apply optm_of); (· first | exact g0 | exact g1 | exact g2); conv => whnf)
              | ((with_reducible refine needm_of (st12 (by assumption)) ?_); conv => whnf)
              | ((with_reducible refine needm_of (len12 (by assumption)) ?_); conv => whnf)
              | ((with_reducible refine forceL_to (store12 (by assumption)) ?_); conv => whnf)
              | ((with_reducible refine forceL_to (whole12 (by assumption)) ?_); conv => whnf)
              | ((with_reducible refine condm_pos ?_ ?_); (· rfl); conv => whnf)
              | ((with_reducible refine condm_neg ?_ ?_); (· rfl); conv => whnf)
              | fail)
            refine ⟨[.int .u8 rep, .int .i16 b], rfl, ld, ?_⟩
            conv => whnf
            repeat' (first
              | ((with_reducible refine regx_of ?_ ?_); (· decide +kernel); conv => whnf)
              | ((with_reducible refine growx_pre ?_ ?_); (· exact ⟨_, rfl⟩); conv => whnf)
              | ((with_reducible refine needm_of ?_ ?_); (· first | assumption | exact decide_eq_true (by omega) | exact mkOK_of (by decide) | decide +kernel | (refine decide_eq_true ?_; simp (disch := omega) only [i64w]; omega)); conv => whnf)
              | ((with_reducible refine condm_pos ?_ ?_); (· assumption); conv => whnf)
              | ((with_reducible refine condm_neg ?_ ?_); (· assumption); conv => whnf)
              | ((with_reducible refine forceL_fv (by assumption) ?_); conv => whnf)
              | ((with_reducible refine forceL_rfv (by assumption) ?_); conv => whnf)
              | ((with_reducible refine forceNm_of ?_); conv => whnf)
              | ((with_reducible refine needm_of (fv_lenL (by assumption) (by assumption)) ?_); conv => whnf)
              | ((with_reducible refine optm_var (fv_strL (by assumption) (by assumption)) (fun s hs => ?_)); conv => whnf)
              | ((with_reducible refine forceA_of ?_); conv => whnf)
              | ((with_reducible refine forceL_pl (by assumption) ?_); conv => whnf)
              | ((with_reducible refine forceL_rpl (by assumption) ?_); conv => whnf)
              | ((with_reducible apply optm_of); (· first | exact g0 | exact g1 | exact g2); conv => whnf)
              | ((with_reducible refine needm_of (st12 (by assumption)) ?_); conv => whnf)
              | ((with_reducible refine needm_of (len12 (by assumption)) ?_); conv => whnf)
              | ((with_reducible refine forceL_to (store12 (by assumption)) ?_); conv => whnf)
              | ((with_reducible refine forceL_to (whole12 (by assumption)) ?_); conv => whnf)
              | ((with_reducible refine condm_pos ?_ ?_); (· rfl); conv => whnf)
              | ((with_reducible refine condm_neg ?_ ?_); (· rfl); conv => whnf)
              | fail)
            have b0' : 0 ≤ rep ∧ rep ≤ 255 := b0
            obtain ⟨r, hr⟩ : ∃ r : Nat, r = rep.toNat % 2 + 1 := ⟨_, rfl⟩
            have hr15 : 1 ≤ r ∧ r ≤ 2 := by omega
            have hrw : IntKind.u8.wrap (rep.tmod 2 + 1) = (r : Int) := by
              obtain ⟨q, rfl⟩ : ∃ q : Nat, rep = q := ⟨rep.toNat, by omega⟩
              have e : (q : Int).tmod 2 = ((q % 2 : Nat) : Int) := tmodN q 2
              rw [e, hr, Int.toNat_natCast]
              rw [show ((q % 2 : Nat) : Int) + 1 = ((q % 2 + 1 : Nat) : Int) by omega, u8w (by omega)]
            rw [hrw]
            have hw : IntKind.i64.wrap (↑i + 1) = ((i + 1 : Nat) : Int) := by rw [i64w (by omega) (by omega)]; rfl
            have hbb : -32768 ≤ b ∧ b ≤ 32767 := b1
            refine Go.Eng.Fn.frame [] (by rfl) (by exact trivial) (by rfl) (stepT c hc r ⟨hr15.1, by omega⟩ b hbb (fun u h1 h2 => ?_) (fun u h1 h2 => ?_))
            · skip
              conv => whnf
              repeat' (first
                | ((with_reducible refine regx_of ?_ ?_); (· decide +kernel); conv => whnf)
                | ((with_reducible refine growx_pre ?_ ?_); (· exact ⟨_, rfl⟩); conv => whnf)
                | ((with_reducible refine needm_of ?_ ?_); (· first | assumption | exact decide_eq_true (by omega) | exact mkOK_of (by decide) | decide +kernel | (refine decide_eq_true ?_; simp (disch := omega) only [i64w]; omega)); conv => whnf)
                | ((with_reducible refine condm_pos ?_ ?_); (· assumption); conv => whnf)
                | ((with_reducible refine condm_neg ?_ ?_); (· assumption); conv => whnf)
                | ((with_reducible refine forceL_fv (by assumption) ?_); conv => whnf)
                | ((with_reducible refine forceL_rfv (by assumption) ?_); conv => whnf)
                | ((with_reducible refine forceNm_of ?_); conv => whnf)
                | ((with_reducible refine needm_of (fv_lenL (by assumption) (by assumption)) ?_); conv => whnf)
                | ((with_reducible refine optm_var (fv_strL (by assumption) (by assumption)) (fun s hs => ?_)); conv => whnf)
                | ((with_reducible refine forceA_of ?_); conv => whnf)
                | ((with_reducible refine forceL_pl (by assumption) ?_); conv => whnf)
                | ((with_reducible refine forceL_rpl (by assumption) ?_); conv => whnf)
                | ((with_reducible apply optm_of); (· first | exact g0 | exact g1 | exact g2); conv => whnf)
                | ((with_reducible refine needm_of (st12 (by assumption)) ?_); conv => whnf)
                | ((with_reducible refine needm_of (len12 (by assumption)) ?_); conv => whnf)
                | ((with_reducible refine forceL_to (store12 (by assumption)) ?_); conv => whnf)
                | ((with_reducible refine forceL_to (whole12 (by assumption)) ?_); conv => whnf)
                | ((with_reducible refine condm_pos ?_ ?_); (· rfl); conv => whnf)
                | ((with_reducible refine condm_neg ?_ ?_); (· rfl); conv => whnf)
                | fail)
              exact ⟨len - (i + 1), by omega, Into.weak [] [(0, .a (.rslc p len cap)), (1, .a y2), (5, .a (.str (bs (toldP c)))), (6, .a (.str (bs (toldP zeros)))), (7, .a (.int .i64 (sumC c 6))), (8, .a (.int .i64 ((i + 1 : Nat) : Int)))] [] ⟨i + 1, c, by omega, rfl, hc, hlo, rfl, rfl⟩ ⟨rfl, hy2.1 _, rfl, rfl, rfl, congrArg (fun z => some (V.a (.int .i64 z))) hw, trivial⟩ trivial (by simp [nodupb, baseb, frmOk, V.okb, A.okb, hy2.2])⟩
            · obtain ⟨w, hwd⟩ : ∃ w : Nat, w = if b < 0 then 1 else 0 := ⟨_, rfl⟩
              rw [← hwd] at h1 ⊢
              have hw2 : w < 2 := by rw [hwd]; split <;> decide
              obtain ⟨c', hc'⟩ : ∃ c', c' = c.set (r * 2 + w) (b.natAbs + u) := ⟨_, rfl⟩
              have hct : Ct c' := by rw [hc']; exact hc.set (by omega) (by omega)
              have hlo' : Lo c' := by rw [hc']; exact hlo.set (by omega)
              have hmx : mxC c c' = c' := by rw [hc']; exact mx_set h1 (by omega)
              have heq : c' = c ↔ b = 0 := by
                rw [hc']
                constructor
                · intro h
                  have this : (c.set (r * 2 + w) (b.natAbs + u))[r * 2 + w]? = c[r * 2 + w]? := by rw [h]
                  obtain ⟨h3, _⟩ := List.getElem?_eq_some_iff.1 h1
                  rw [List.getElem?_set_self h3, h1] at this
                  injection this with this
                  omega
                · rintro rfl
                  apply List.ext_getElem?
                  intro k
                  by_cases hk : k = r * 2 + w
                  · subst hk
                    obtain ⟨h3, _⟩ := List.getElem?_eq_some_iff.1 h1
                    rw [List.getElem?_set_self h3, h1]; simp
                  · rw [List.getElem?_set_ne (by omega)]
              have hsum : sumC c' 6 = sumC c 6 + b := by
                rw [hc', sumC_set hc ⟨hr15.1, by omega⟩ hw2 h1, hwd]
                by_cases hb0 : b < 0
                · rw [if_pos hb0, if_neg (by decide)]; omega
                · rw [if_neg hb0, if_pos rfl]; omega
              rw [← hc']
              have k1 := @belowT (roOf W) c c' hc hct
              rw [decide_eq_true hmx] at k1
              have hbe : ((bs (toldP c')).data.toList == (bs (toldP c)).data.toList) = decide (b = 0) := by
                refine beq_bs _ _ _ ?_
                rw [decide_eq_true_iff, ← heq]
                exact ⟨fun h => told_inj hct hc h, fun h => by rw [h]⟩
              clear hend
              have hsc := sumC_le hc.lt 6
              have hsc' := sumC_le hct.lt 6
              obtain ⟨z', hz'⟩ : ∃ z', z' = sumC c' 6 := ⟨_, rfl⟩
              obtain ⟨t', ht'⟩ : ∃ t', t' = bs (toldP c') := ⟨_, rfl⟩
              rw [← hz'] at hsum hsc'
              rw [← ht'] at k1 hbe ⊢
              generalize sumC c 6 = z at *
              generalize bs (toldP c) = t at *
              conv => whnf
              repeat' (first
                | ((with_reducible refine regx_of ?_ ?_); (· decide +kernel); conv => whnf)
                | ((with_reducible refine growx_pre ?_ ?_); (· exact ⟨_, rfl⟩); conv => whnf)
                | ((with_reducible refine needm_of ?_ ?_); (· first | assumption | exact decide_eq_true (by omega) | exact mkOK_of (by decide) | decide +kernel | (refine decide_eq_true ?_; simp (disch := omega) only [i64w]; omega)); conv => whnf)
                | ((with_reducible refine condm_pos ?_ ?_); (· assumption); conv => whnf)
                | ((with_reducible refine condm_neg ?_ ?_); (· assumption); conv => whnf)
                | ((with_reducible refine forceL_fv (by assumption) ?_); conv => whnf)
                | ((with_reducible refine forceL_rfv (by assumption) ?_); conv => whnf)
                | ((with_reducible refine forceNm_of ?_); conv => whnf)
                | ((with_reducible refine needm_of (fv_lenL (by assumption) (by assumption)) ?_); conv => whnf)
                | ((with_reducible refine optm_var (fv_strL (by assumption) (by assumption)) (fun s hs => ?_)); conv => whnf)
                | ((with_reducible refine forceA_of ?_); conv => whnf)
                | ((with_reducible refine forceL_pl (by assumption) ?_); conv => whnf)
                | ((with_reducible refine forceL_rpl (by assumption) ?_); conv => whnf)
                | ((with_reducible apply optm_of); (· first | exact g0 | exact g1 | exact g2); conv => whnf)
                | ((with_reducible refine needm_of (st12 (by assumption)) ?_); conv => whnf)
                | ((with_reducible refine needm_of (len12 (by assumption)) ?_); conv => whnf)
                | ((with_reducible refine forceL_to (store12 (by assumption)) ?_); conv => whnf)
                | ((with_reducible refine forceL_to (whole12 (by assumption)) ?_); conv => whnf)
                | ((with_reducible refine condm_pos ?_ ?_); (· rfl); conv => whnf)
                | ((with_reducible refine condm_neg ?_ ?_); (· rfl); conv => whnf)
                | fail)
              refine Go.Eng.Fn.frame [] (by rfl) (by exact trivial) (by rfl) (k1 ?_)
              conv => whnf
              repeat' (first
                | ((with_reducible refine regx_of ?_ ?_); (· decide +kernel); conv => whnf)
                | ((with_reducible refine growx_pre ?_ ?_); (· exact ⟨_, rfl⟩); conv => whnf)
                | ((with_reducible refine needm_of ?_ ?_); (· first | assumption | exact decide_eq_true (by omega) | exact mkOK_of (by decide) | decide +kernel | (refine decide_eq_true ?_; simp (disch := omega) only [i64w]; omega)); conv => whnf)
                | ((with_reducible refine condm_pos ?_ ?_); (· assumption); conv => whnf)
                | ((with_reducible refine condm_neg ?_ ?_); (· assumption); conv => whnf)
                | ((with_reducible refine forceL_fv (by assumption) ?_); conv => whnf)
                | ((with_reducible refine forceL_rfv (by assumption) ?_); conv => whnf)
                | ((with_reducible refine forceNm_of ?_); conv => whnf)
                | ((with_reducible refine needm_of (fv_lenL (by assumption) (by assumption)) ?_); conv => whnf)
                | ((with_reducible refine optm_var (fv_strL (by assumption) (by assumption)) (fun s hs => ?_)); conv => whnf)
                | ((with_reducible refine forceA_of ?_); conv => whnf)
                | ((with_reducible refine forceL_pl (by assumption) ?_); conv => whnf)
                | ((with_reducible refine forceL_rpl (by assumption) ?_); conv => whnf)
                | ((with_reducible apply optm_of); (· first | exact g0 | exact g1 | exact g2); conv => whnf)
                | ((with_reducible refine needm_of (st12 (by assumption)) ?_); conv => whnf)
                | ((with_reducible refine needm_of (len12 (by assumption)) ?_); conv => whnf)
                | ((with_reducible refine forceL_to (store12 (by assumption)) ?_); conv => whnf)
                | ((with_reducible refine forceL_to (whole12 (by assumption)) ?_); conv => whnf)
                | ((with_reducible refine condm_pos ?_ ?_); (· rfl); conv => whnf)
                | ((with_reducible refine condm_neg ?_ ?_); (· rfl); conv => whnf)
                | fail)
              refine condm_neg (by rw [hbe]; by_cases hb0 : b = 0 <;> simp [hb0]) ?_
              conv => whnf
              repeat' (first
                | ((with_reducible refine regx_of ?_ ?_); (· decide +kernel); conv => whnf)
                | ((with_reducible refine growx_pre ?_ ?_); (· exact ⟨_, rfl⟩); conv => whnf)
                | ((with_reducible refine needm_of ?_ ?_); (· first | assumption | exact decide_eq_true (by omega) | exact mkOK_of (by decide) | decide +kernel | (refine decide_eq_true ?_; simp (disch := omega) only [i64w]; omega)); conv => whnf)
                | ((with_reducible refine condm_pos ?_ ?_); (· assumption); conv => whnf)
                | ((with_reducible refine condm_neg ?_ ?_); (· assumption); conv => whnf)
                | ((with_reducible refine forceL_fv (by assumption) ?_); conv => whnf)
                | ((with_reducible refine forceL_rfv (by assumption) ?_); conv => whnf)
                | ((with_reducible refine forceNm_of ?_); conv => whnf)
                | ((with_reducible refine needm_of (fv_lenL (by assumption) (by assumption)) ?_); conv => whnf)
                | ((with_reducible refine optm_var (fv_strL (by assumption) (by assumption)) (fun s hs => ?_)); conv => whnf)
                | ((with_reducible refine forceA_of ?_); conv => whnf)
                | ((with_reducible refine forceL_pl (by assumption) ?_); conv => whnf)
                | ((with_reducible refine forceL_rpl (by assumption) ?_); conv => whnf)
                | ((with_reducible apply optm_of); (· first | exact g0 | exact g1 | exact g2); conv => whnf)
                | ((with_reducible refine needm_of (st12 (by assumption)) ?_); conv => whnf)
                | ((with_reducible refine needm_of (len12 (by assumption)) ?_); conv => whnf)
                | ((with_reducible refine forceL_to (store12 (by assumption)) ?_); conv => whnf)
                | ((with_reducible refine forceL_to (whole12 (by assumption)) ?_); conv => whnf)
                | ((with_reducible refine condm_pos ?_ ?_); (· rfl); conv => whnf)
                | ((with_reducible refine condm_neg ?_ ?_); (· rfl); conv => whnf)
                | fail)
              have hv : IntKind.i64.wrap (z + IntKind.i64.wrap b) = z' := by
                rw [i64w (x := b) (by omega) (by omega), i64w (by omega) (by omega), hsum]
              exact ⟨len - (i + 1), by omega, Into.weak [] [(0, .a (.rslc p len cap)), (1, .a y2), (5, .a (.str t')), (6, .a (.str (bs (toldP zeros)))), (7, .a (.int .i64 z')), (8, .a (.int .i64 ((i + 1 : Nat) : Int)))] [] ⟨i + 1, c', by omega, rfl, hct, hlo', by rw [ht', hz'], rfl⟩ ⟨rfl, hy2.1 _, rfl, rfl, congrArg (fun z => some (V.a (.int .i64 z))) hv, congrArg (fun z => some (V.a (.int .i64 z))) hw, trivial⟩ trivial (by simp [nodupb, baseb, frmOk, V.okb, A.okb, hy2.2])⟩
          · have d2 : decide ((i : Int) < 40) = false := decide_eq_false (by omega)
            conv => whnf
            repeat' (first
              | ((with_reducible refine regx_of ?_ ?_); (· decide +kernel); conv => whnf)
              | ((with_reducible refine growx_pre ?_ ?_); (· exact ⟨_, rfl⟩); conv => whnf)
              | ((with_reducible refine needm_of ?_ ?_); (· first | assumption | exact decide_eq_true (by omega) | exact mkOK_of (by decide) | decide +kernel | (refine decide_eq_true ?_; simp (disch := omega) only [i64w]; omega)); conv => whnf)
              | ((with_reducible refine condm_pos ?_ ?_); (· assumption); conv => whnf)
              | ((with_reducible refine condm_neg ?_ ?_); (· assumption); conv => whnf)
              | ((with_reducible refine forceL_fv (by assumption) ?_); conv => whnf)
              | ((with_reducible refine forceL_rfv (by assumption) ?_); conv => whnf)
              | ((with_reducible refine forceNm_of ?_); conv => whnf)
              | ((with_reducible refine needm_of (fv_lenL (by assumption) (by assumption)) ?_); conv => whnf)
              | ((with_reducible refine optm_var (fv_strL (by assumption) (by assumption)) (fun s hs => ?_)); conv => whnf)
              | ((with_reducible refine forceA_of ?_); conv => whnf)
              | ((with_reducible refine forceL_pl (by assumption) ?_); conv => whnf)
              | ((with_reducible refine forceL_rpl (by assumption) ?_); conv => whnf)
              | ((with_reducible apply optm_of); (· first | exact g0 | exact g1 | exact g2); conv => whnf)
              | ((with_reducible refine needm_of (st12 (by assumption)) ?_); conv => whnf)
              | ((with_reducible refine needm_of (len12 (by assumption)) ?_); conv => whnf)
              | ((with_reducible refine forceL_to (store12 (by assumption)) ?_); conv => whnf)
              | ((with_reducible refine forceL_to (whole12 (by assumption)) ?_); conv => whnf)
              | ((with_reducible refine condm_pos ?_ ?_); (· rfl); conv => whnf)
              | ((with_reducible refine condm_neg ?_ ?_); (· rfl); conv => whnf)
              | fail)
            exact hend _ _ ⟨hy2.1 _, rfl, rfl, rfl, trivial⟩
        · have d1 : decide ((i : Int) < (len : Int)) = false := decide_eq_false (by omega)
          conv => whnf
          repeat' (first
            | ((with_reducible refine regx_of ?_ ?_); (· decide +kernel); conv => whnf)
            | ((with_reducible refine growx_pre ?_ ?_); (· exact ⟨_, rfl⟩); conv => whnf)
            | ((with_reducible refine needm_of ?_ ?_); (· first | assumption | exact decide_eq_true (by omega) | exact mkOK_of (by decide) | decide +kernel | (refine decide_eq_true ?_; simp (disch := omega) only [i64w]; omega)); conv => whnf)
            | ((with_reducible refine condm_pos ?_ ?_); (· assumption); conv => whnf)
            | ((with_reducible refine condm_neg ?_ ?_); (· assumption); conv => whnf)
            | ((with_reducible refine forceL_fv (by assumption) ?_); conv => whnf)
            | ((with_reducible refine forceL_rfv (by assumption) ?_); conv => whnf)
            | ((with_reducible refine forceNm_of ?_); conv => whnf)
            | ((with_reducible refine needm_of (fv_lenL (by assumption) (by assumption)) ?_); conv => whnf)
            | ((with_reducible refine optm_var (fv_strL (by assumption) (by assumption)) (fun s hs => ?_)); conv => whnf)
            | ((with_reducible refine forceA_of ?_); conv => whnf)
            | ((with_reducible refine forceL_pl (by assumption) ?_); conv => whnf)
            | ((with_reducible refine forceL_rpl (by assumption) ?_); conv => whnf)
            | ((with_reducible apply optm_of); (· first | exact g0 | exact g1 | exact g2); conv => whnf)
            | ((with_reducible refine needm_of (st12 (by assumption)) ?_); conv => whnf)
            | ((with_reducible refine needm_of (len12 (by assumption)) ?_); conv => whnf)
            | ((with_reducible refine forceL_to (store12 (by assumption)) ?_); conv => whnf)
            | ((with_reducible refine forceL_to (whole12 (by assumption)) ?_); conv => whnf)
            | ((with_reducible refine condm_pos ?_ ?_); (· rfl); conv => whnf)
            | ((with_reducible refine condm_neg ?_ ?_); (· rfl); conv => whnf)
            | fail)
          exact hend _ _ ⟨hy2.1 _, rfl, rfl, rfl, trivial⟩
end Go.Proofs.YtimddbgnaeeggaaDoor.KD
