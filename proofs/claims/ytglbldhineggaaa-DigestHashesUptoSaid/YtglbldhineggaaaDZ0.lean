import Derived.Test.YtglbldhineggaaaDZ
namespace Go.Proofs.Ytglbldhineggaaa.DG
open Go.Eng
set_option maxRecDepth 100000
section
variable {ro : Addr → A → Prop}
set_option maxHeartbeats 4000000 in
theorem body0 (p : Addr) (len cap : Nat) (hlen : len < 1048576) {Q : Exit → Frm → Hp → Prop}
    (i : Nat) (hi : i < len) (T0 T1 T2 : List UInt8) (n0 c0 n1 c1 n2 c2 : Nat) (h0 h1 h2 b0 b1 b2 : List A) (o0 : Lot i T0 n0 c0 h0 b0) (o1 : Lot i T1 n1 c1 h1 b1) (o2 : Lot i T2 n2 c2 h2 b2)
    (k a t : Int) (x : A) (L : List UInt8) (l0 : ro ((p.add (i * 4)).add 0) (.int .i64 k)) (l1 : ro ((p.add (i * 4)).add 1) (.int .i64 a))
    (l2 : ro ((p.add (i * 4)).add 2) (.int .i64 t)) (l3 : ro ((p.add (i * 4)).add 3) x) (hx : Src ro x L) (hL : L.length ≤ 1048576) (hat : three a = 0) :
    wpx Try.prog ro Try.f7.ntmps 0 h7t (theLoop Try.f7 1) (F7 (.rslc p len cap) i) (H7 n0 c0 n1 c1 n2 c2 h0 h1 h2 b0 b1 b2) (fun e F' H' => match e with
      | .normal => ∃ m, m < len - i ∧ Into 0 F' H' (Inv7 (.rslc p len cap) len m)
      | e => Q e F' H') := by
  have hw := wrapi (i := i) (by omega)
  have hfl0 := o0.hs.flat
  have hfl1 := o1.hs.flat
  have hfl2 := o2.hs.flat
  obtain ⟨y0, hb0, hc0⟩ := o0.row
  obtain ⟨y1, hb1, hc1⟩ := o1.row
  obtain ⟨y2, hb2, hc2⟩ := o2.row
  have q0 := o0.hn
  have q1 := o1.hn
  have q2 := o2.hn
  have g0 := o0.le
  have g1 := o1.le
  have g2 := o2.le
  have gi : i * 1048576 ≤ 1099511627776 := by omega
  have hbT := app_len hb0
  conv => whnf
  refine condm_pos (decide_eq_true (by omega)) ?_
  conv => whnf
  repeat' (first
    | ((with_reducible refine regx_of ?_ ?_); (· decide +kernel); conv => whnf)
    | ((with_reducible refine growx_pre ?_ ?_); (· exact ⟨_, rfl⟩); conv => whnf)
    | ((with_reducible refine needm_of ?_ ?_); (· first | assumption | exact decide_eq_true (by omega) | exact mkOK_of (by decide) | decide +kernel | (refine decide_eq_true ?_; simp (disch := omega) only [i64w]; omega)); conv => whnf)
    | ((with_reducible refine condm_pos ?_ ?_); (· assumption); conv => whnf)
    | ((with_reducible refine condm_neg ?_ ?_); (· assumption); conv => whnf)
    | ((with_reducible refine forceL_fv (by assumption) ?_); conv => whnf)
    | ((with_reducible refine forceL_rfv (by assumption) ?_); conv => whnf)
    | ((with_reducible refine forceNm_of ?_); conv => whnf)
    | ((with_reducible refine needm_of (fv_lenL (by assumption) (by assumption)) ?_); conv => whnf)
    | ((with_reducible refine optm_var (fv_strL (by assumption) (by assumption)) (fun s hs => ?_)); conv => whnf)
    | ((with_reducible refine forceA_of ?_); conv => whnf)
    | ((with_reducible refine forceL_fw (by assumption) ?_); conv => whnf)
    | ((with_reducible refine forceL_rfw (by assumption) ?_); conv => whnf)
    | ((with_reducible refine forceL_fl (by assumption) ?_); conv => whnf)
    | ((with_reducible refine forceL_rfl (by assumption) ?_); conv => whnf)
    | rw [hw]
    | ((with_reducible refine needm_of (by assumption) ?_); conv => whnf)
    | ((refine ⟨_, l0, ?_⟩); conv => whnf)
    | ((refine ⟨_, l1, ?_⟩); conv => whnf)
    | ((refine ⟨_, l2, ?_⟩); conv => whnf)
    | ((refine ⟨_, l3, ?_⟩); conv => whnf)
    | fail)
  refine Go.Eng.Fn.frame [] (by rfl) (by exact trivial) (by rfl) (three30 a ?_)
  rw [hat]
  conv => whnf
  repeat' (first
    | ((with_reducible refine regx_of ?_ ?_); (· decide +kernel); conv => whnf)
    | ((with_reducible refine growx_pre ?_ ?_); (· exact ⟨_, rfl⟩); conv => whnf)
    | ((with_reducible refine needm_of ?_ ?_); (· first | assumption | exact decide_eq_true (by omega) | exact mkOK_of (by decide) | decide +kernel | (refine decide_eq_true ?_; simp (disch := omega) only [i64w]; omega)); conv => whnf)
    | ((with_reducible refine condm_pos ?_ ?_); (· assumption); conv => whnf)
    | ((with_reducible refine condm_neg ?_ ?_); (· assumption); conv => whnf)
    | ((with_reducible refine forceL_fv (by assumption) ?_); conv => whnf)
    | ((with_reducible refine forceL_rfv (by assumption) ?_); conv => whnf)
    | ((with_reducible refine forceNm_of ?_); conv => whnf)
    | ((with_reducible refine needm_of (fv_lenL (by assumption) (by assumption)) ?_); conv => whnf)
    | ((with_reducible refine optm_var (fv_strL (by assumption) (by assumption)) (fun s hs => ?_)); conv => whnf)
    | ((with_reducible refine forceA_of ?_); conv => whnf)
    | ((with_reducible refine forceL_fw (by assumption) ?_); conv => whnf)
    | ((with_reducible refine forceL_rfw (by assumption) ?_); conv => whnf)
    | ((with_reducible refine forceL_fl (by assumption) ?_); conv => whnf)
    | ((with_reducible refine forceL_rfl (by assumption) ?_); conv => whnf)
    | rw [hw]
    | ((with_reducible refine needm_of (by assumption) ?_); conv => whnf)
    | ((refine ⟨_, l0, ?_⟩); conv => whnf)
    | ((refine ⟨_, l1, ?_⟩); conv => whnf)
    | ((refine ⟨_, l2, ?_⟩); conv => whnf)
    | ((refine ⟨_, l3, ?_⟩); conv => whnf)
    | fail)
  by_cases k1 : k = 1
  · subst k1
    conv => whnf
    repeat' (first
      | ((with_reducible refine regx_of ?_ ?_); (· decide +kernel); conv => whnf)
      | ((with_reducible refine growx_pre ?_ ?_); (· exact ⟨_, rfl⟩); conv => whnf)
      | ((with_reducible refine needm_of ?_ ?_); (· first | assumption | exact decide_eq_true (by omega) | exact mkOK_of (by decide) | decide +kernel | (refine decide_eq_true ?_; simp (disch := omega) only [i64w]; omega)); conv => whnf)
      | ((with_reducible refine condm_pos ?_ ?_); (· assumption); conv => whnf)
      | ((with_reducible refine condm_neg ?_ ?_); (· assumption); conv => whnf)
      | ((with_reducible refine forceL_fv (by assumption) ?_); conv => whnf)
      | ((with_reducible refine forceL_rfv (by assumption) ?_); conv => whnf)
      | ((with_reducible refine forceNm_of ?_); conv => whnf)
      | ((with_reducible refine needm_of (fv_lenL (by assumption) (by assumption)) ?_); conv => whnf)
      | ((with_reducible refine optm_var (fv_strL (by assumption) (by assumption)) (fun s hs => ?_)); conv => whnf)
      | ((with_reducible refine forceA_of ?_); conv => whnf)
      | ((with_reducible refine forceL_fw (by assumption) ?_); conv => whnf)
      | ((with_reducible refine forceL_rfw (by assumption) ?_); conv => whnf)
      | ((with_reducible refine forceL_fl (by assumption) ?_); conv => whnf)
      | ((with_reducible refine forceL_rfl (by assumption) ?_); conv => whnf)
      | rw [hw]
      | ((with_reducible refine needm_of (by assumption) ?_); conv => whnf)
      | ((refine ⟨_, l0, ?_⟩); conv => whnf)
      | ((refine ⟨_, l1, ?_⟩); conv => whnf)
      | ((refine ⟨_, l2, ?_⟩); conv => whnf)
      | ((refine ⟨_, l3, ?_⟩); conv => whnf)
      | fail)
    refine Go.Eng.Fn.frame [] (by simp [V.ren, hx.ren]) (by exact trivial) (by simp [nodupb, V.okb, hx.okb]) (lent19 x L hx (by omega) (fun y cs cap' hcs hcap' => ?_))
    conv => whnf
    repeat' (first
      | ((with_reducible refine regx_of ?_ ?_); (· decide +kernel); conv => whnf)
      | ((with_reducible refine growx_pre ?_ ?_); (· exact ⟨_, rfl⟩); conv => whnf)
      | ((with_reducible refine needm_of ?_ ?_); (· first | assumption | exact decide_eq_true (by omega) | exact mkOK_of (by decide) | decide +kernel | (refine decide_eq_true ?_; simp (disch := omega) only [i64w]; omega)); conv => whnf)
      | ((with_reducible refine condm_pos ?_ ?_); (· assumption); conv => whnf)
      | ((with_reducible refine condm_neg ?_ ?_); (· assumption); conv => whnf)
      | ((with_reducible refine forceL_fv (by assumption) ?_); conv => whnf)
      | ((with_reducible refine forceL_rfv (by assumption) ?_); conv => whnf)
      | ((with_reducible refine forceNm_of ?_); conv => whnf)
      | ((with_reducible refine needm_of (fv_lenL (by assumption) (by assumption)) ?_); conv => whnf)
      | ((with_reducible refine optm_var (fv_strL (by assumption) (by assumption)) (fun s hs => ?_)); conv => whnf)
      | ((with_reducible refine forceA_of ?_); conv => whnf)
      | ((with_reducible refine forceL_fw (by assumption) ?_); conv => whnf)
      | ((with_reducible refine forceL_rfw (by assumption) ?_); conv => whnf)
      | ((with_reducible refine forceL_fl (by assumption) ?_); conv => whnf)
      | ((with_reducible refine forceL_rfl (by assumption) ?_); conv => whnf)
      | rw [hw]
      | ((with_reducible refine needm_of (by assumption) ?_); conv => whnf)
      | ((refine ⟨_, l0, ?_⟩); conv => whnf)
      | ((refine ⟨_, l1, ?_⟩); conv => whnf)
      | ((refine ⟨_, l2, ?_⟩); conv => whnf)
      | ((refine ⟨_, l3, ?_⟩); conv => whnf)
      | fail)
    refine Go.Eng.Fn.frame [2, 8] (by rfl) (by exact ⟨ren_fl hfl0 _ _ _, ren_fv hcs _ _ _, trivial⟩) (by simp [nodupb, V.okb, A.okb, Ob.okb, hfl0.all, all_fv hcs] <;> decide) (write31 T0 _ h0 cs _ 0 L.length cap' false o0.hs hcs (by simp only [List.length_append]; omega) (by omega) (by omega) (fun hn' hhn' => ?_))
    rw [List.drop_zero, List.append_assoc, List.take_left' rfl, hs_len] at hhn'
    have hfln := hhn'.flat
    conv => whnf
    repeat' (first
      | ((with_reducible refine regx_of ?_ ?_); (· decide +kernel); conv => whnf)
      | ((with_reducible refine growx_pre ?_ ?_); (· exact ⟨_, rfl⟩); conv => whnf)
      | ((with_reducible refine needm_of ?_ ?_); (· first | assumption | exact decide_eq_true (by omega) | exact mkOK_of (by decide) | decide +kernel | (refine decide_eq_true ?_; simp (disch := omega) only [i64w]; omega)); conv => whnf)
      | ((with_reducible refine condm_pos ?_ ?_); (· assumption); conv => whnf)
      | ((with_reducible refine condm_neg ?_ ?_); (· assumption); conv => whnf)
      | ((with_reducible refine forceL_fv (by assumption) ?_); conv => whnf)
      | ((with_reducible refine forceL_rfv (by assumption) ?_); conv => whnf)
      | ((with_reducible refine forceNm_of ?_); conv => whnf)
      | ((with_reducible refine needm_of (fv_lenL (by assumption) (by assumption)) ?_); conv => whnf)
      | ((with_reducible refine optm_var (fv_strL (by assumption) (by assumption)) (fun s hs => ?_)); conv => whnf)
      | ((with_reducible refine forceA_of ?_); conv => whnf)
      | ((with_reducible refine forceL_fw (by assumption) ?_); conv => whnf)
      | ((with_reducible refine forceL_rfw (by assumption) ?_); conv => whnf)
      | ((with_reducible refine forceL_fl (by assumption) ?_); conv => whnf)
      | ((with_reducible refine forceL_rfl (by assumption) ?_); conv => whnf)
      | rw [hw]
      | ((with_reducible refine needm_of (by assumption) ?_); conv => whnf)
      | ((refine ⟨_, l0, ?_⟩); conv => whnf)
      | ((refine ⟨_, l1, ?_⟩); conv => whnf)
      | ((refine ⟨_, l2, ?_⟩); conv => whnf)
      | ((refine ⟨_, l3, ?_⟩); conv => whnf)
      | fail)
    refine Go.Eng.Fn.frame [8] (by simp [V.ren, A.ren, dsOf, hx.ren]) (by exact ⟨ren_fv hcs _ _ _, trivial⟩) (by simp [nodupb, V.okb, A.okb, Ob.okb, hx.okb, all_fv hcs] <;> decide) (kept22s x L y hx cs _ cap' (by rw [hcs, List.append_assoc]) rfl hcap' (by omega) ?_)
    conv => whnf
    repeat' (first
      | ((with_reducible refine regx_of ?_ ?_); (· decide +kernel); conv => whnf)
      | ((with_reducible refine growx_pre ?_ ?_); (· exact ⟨_, rfl⟩); conv => whnf)
      | ((with_reducible refine needm_of ?_ ?_); (· first | assumption | exact decide_eq_true (by omega) | exact mkOK_of (by decide) | decide +kernel | (refine decide_eq_true ?_; simp (disch := omega) only [i64w]; omega)); conv => whnf)
      | ((with_reducible refine condm_pos ?_ ?_); (· assumption); conv => whnf)
      | ((with_reducible refine condm_neg ?_ ?_); (· assumption); conv => whnf)
      | ((with_reducible refine forceL_fv (by assumption) ?_); conv => whnf)
      | ((with_reducible refine forceL_rfv (by assumption) ?_); conv => whnf)
      | ((with_reducible refine forceNm_of ?_); conv => whnf)
      | ((with_reducible refine needm_of (fv_lenL (by assumption) (by assumption)) ?_); conv => whnf)
      | ((with_reducible refine optm_var (fv_strL (by assumption) (by assumption)) (fun s hs => ?_)); conv => whnf)
      | ((with_reducible refine forceA_of ?_); conv => whnf)
      | ((with_reducible refine forceL_fw (by assumption) ?_); conv => whnf)
      | ((with_reducible refine forceL_rfw (by assumption) ?_); conv => whnf)
      | ((with_reducible refine forceL_fl (by assumption) ?_); conv => whnf)
      | ((with_reducible refine forceL_rfl (by assumption) ?_); conv => whnf)
      | rw [hw]
      | ((with_reducible refine needm_of (by assumption) ?_); conv => whnf)
      | ((refine ⟨_, l0, ?_⟩); conv => whnf)
      | ((refine ⟨_, l1, ?_⟩); conv => whnf)
      | ((refine ⟨_, l2, ?_⟩); conv => whnf)
      | ((refine ⟨_, l3, ?_⟩); conv => whnf)
      | fail)
    refine Go.Eng.Fn.frame [8] (by rfl) (by exact ⟨ren_fv hcs _ _ _, trivial⟩) (by simp [nodupb, V.okb, A.okb, Ob.okb, all_fv hcs] <;> decide) (spoil14 cs _ L.length cap' hcs (by omega) (by rw [hcap']; simp only [List.length_append, marks_length]) (by omega) (fun cs2 L2 hcs2 hL2 => ?_))
    conv => whnf
    repeat' (first
      | ((with_reducible refine regx_of ?_ ?_); (· decide +kernel); conv => whnf)
      | ((with_reducible refine growx_pre ?_ ?_); (· exact ⟨_, rfl⟩); conv => whnf)
      | ((with_reducible refine needm_of ?_ ?_); (· first | assumption | exact decide_eq_true (by omega) | exact mkOK_of (by decide) | decide +kernel | (refine decide_eq_true ?_; simp (disch := omega) only [i64w]; omega)); conv => whnf)
      | ((with_reducible refine condm_pos ?_ ?_); (· assumption); conv => whnf)
      | ((with_reducible refine condm_neg ?_ ?_); (· assumption); conv => whnf)
      | ((with_reducible refine forceL_fv (by assumption) ?_); conv => whnf)
      | ((with_reducible refine forceL_rfv (by assumption) ?_); conv => whnf)
      | ((with_reducible refine forceNm_of ?_); conv => whnf)
      | ((with_reducible refine needm_of (fv_lenL (by assumption) (by assumption)) ?_); conv => whnf)
      | ((with_reducible refine optm_var (fv_strL (by assumption) (by assumption)) (fun s hs => ?_)); conv => whnf)
      | ((with_reducible refine forceA_of ?_); conv => whnf)
      | ((with_reducible refine forceL_fw (by assumption) ?_); conv => whnf)
      | ((with_reducible refine forceL_rfw (by assumption) ?_); conv => whnf)
      | ((with_reducible refine forceL_fl (by assumption) ?_); conv => whnf)
      | ((with_reducible refine forceL_rfl (by assumption) ?_); conv => whnf)
      | rw [hw]
      | ((with_reducible refine needm_of (by assumption) ?_); conv => whnf)
      | ((refine ⟨_, l0, ?_⟩); conv => whnf)
      | ((refine ⟨_, l1, ?_⟩); conv => whnf)
      | ((refine ⟨_, l2, ?_⟩); conv => whnf)
      | ((refine ⟨_, l3, ?_⟩); conv => whnf)
      | fail)
    rcases hx with ⟨rfl, hLn⟩ | ⟨p', cx, rfl, hro⟩ <;> (conv => whnf)
    · have hL0 : L.length = 0 := by rw [hLn]; rfl
      have lot' : Lot (i + 1) (T0 ++ L) n0 c0 hn' b0 := by
        refine ⟨hhn', by rw [List.length_append]; omega, by rw [List.length_append]; omega, y0, ?_, hc0⟩
        rw [hLn, List.append_nil]
        exact hb0
      refine condm_pos (decide_eq_true (by omega)) ?_
      conv => whnf
      refine needm_of (decide_eq_true (by rw [s5]; simp only [List.length_nil]; omega)) ?_
      conv => whnf
      repeat' (first
        | ((with_reducible refine regx_of ?_ ?_); (· decide +kernel); conv => whnf)
        | ((with_reducible refine growx_pre ?_ ?_); (· exact ⟨_, rfl⟩); conv => whnf)
        | ((with_reducible refine needm_of ?_ ?_); (· first | assumption | exact decide_eq_true (by omega) | exact mkOK_of (by decide) | decide +kernel | (refine decide_eq_true ?_; simp (disch := omega) only [i64w]; omega)); conv => whnf)
        | ((with_reducible refine condm_pos ?_ ?_); (· assumption); conv => whnf)
        | ((with_reducible refine condm_neg ?_ ?_); (· assumption); conv => whnf)
        | ((with_reducible refine forceL_fv (by assumption) ?_); conv => whnf)
        | ((with_reducible refine forceL_rfv (by assumption) ?_); conv => whnf)
        | ((with_reducible refine forceNm_of ?_); conv => whnf)
        | ((with_reducible refine needm_of (fv_lenL (by assumption) (by assumption)) ?_); conv => whnf)
        | ((with_reducible refine optm_var (fv_strL (by assumption) (by assumption)) (fun s hs => ?_)); conv => whnf)
        | ((with_reducible refine forceA_of ?_); conv => whnf)
        | ((with_reducible refine forceL_fw (by assumption) ?_); conv => whnf)
        | ((with_reducible refine forceL_rfw (by assumption) ?_); conv => whnf)
        | ((with_reducible refine forceL_fl (by assumption) ?_); conv => whnf)
        | ((with_reducible refine forceL_rfl (by assumption) ?_); conv => whnf)
        | rw [hw]
        | ((with_reducible refine needm_of (by assumption) ?_); conv => whnf)
        | ((refine ⟨_, l0, ?_⟩); conv => whnf)
        | ((refine ⟨_, l1, ?_⟩); conv => whnf)
        | ((refine ⟨_, l2, ?_⟩); conv => whnf)
        | ((refine ⟨_, l3, ?_⟩); conv => whnf)
        | fail)
      refine forceL_to (l' := b0) rfl ?_
      conv => whnf
      repeat' (first
        | ((with_reducible refine regx_of ?_ ?_); (· decide +kernel); conv => whnf)
        | ((with_reducible refine growx_pre ?_ ?_); (· exact ⟨_, rfl⟩); conv => whnf)
        | ((with_reducible refine needm_of ?_ ?_); (· first | assumption | exact decide_eq_true (by omega) | exact mkOK_of (by decide) | decide +kernel | (refine decide_eq_true ?_; simp (disch := omega) only [i64w]; omega)); conv => whnf)
        | ((with_reducible refine condm_pos ?_ ?_); (· assumption); conv => whnf)
        | ((with_reducible refine condm_neg ?_ ?_); (· assumption); conv => whnf)
        | ((with_reducible refine forceL_fv (by assumption) ?_); conv => whnf)
        | ((with_reducible refine forceL_rfv (by assumption) ?_); conv => whnf)
        | ((with_reducible refine forceNm_of ?_); conv => whnf)
        | ((with_reducible refine needm_of (fv_lenL (by assumption) (by assumption)) ?_); conv => whnf)
        | ((with_reducible refine optm_var (fv_strL (by assumption) (by assumption)) (fun s hs => ?_)); conv => whnf)
        | ((with_reducible refine forceA_of ?_); conv => whnf)
        | ((with_reducible refine forceL_fw (by assumption) ?_); conv => whnf)
        | ((with_reducible refine forceL_rfw (by assumption) ?_); conv => whnf)
        | ((with_reducible refine forceL_fl (by assumption) ?_); conv => whnf)
        | ((with_reducible refine forceL_rfl (by assumption) ?_); conv => whnf)
        | rw [hw]
        | ((with_reducible refine needm_of (by assumption) ?_); conv => whnf)
        | ((refine ⟨_, l0, ?_⟩); conv => whnf)
        | ((refine ⟨_, l1, ?_⟩); conv => whnf)
        | ((refine ⟨_, l2, ?_⟩); conv => whnf)
        | ((refine ⟨_, l3, ?_⟩); conv => whnf)
        | fail)
      refine Go.Eng.Fn.frame [2] (by rfl) (by exact ⟨ren_fl hfln _ _ _, trivial⟩) (by simp [nodupb, V.okb, A.okb, Ob.okb, hfln.all]) (len36n' (T0 ++ L) _ hn' hhn' ?_)
      conv => whnf
      refine growx_pre ⟨[], by rw [List.append_nil]; exact (plug_onen rfl (ren_fbn hfln _ _ _)).symm⟩ ?_
      conv => whnf
      repeat' (first
        | ((with_reducible refine regx_of ?_ ?_); (· decide +kernel); conv => whnf)
        | ((with_reducible refine growx_pre ?_ ?_); (· exact ⟨_, rfl⟩); conv => whnf)
        | ((with_reducible refine needm_of ?_ ?_); (· first | assumption | exact decide_eq_true (by omega) | exact mkOK_of (by decide) | decide +kernel | (refine decide_eq_true ?_; simp (disch := omega) only [i64w]; omega)); conv => whnf)
        | ((with_reducible refine condm_pos ?_ ?_); (· assumption); conv => whnf)
        | ((with_reducible refine condm_neg ?_ ?_); (· assumption); conv => whnf)
        | ((with_reducible refine forceL_fv (by assumption) ?_); conv => whnf)
        | ((with_reducible refine forceL_rfv (by assumption) ?_); conv => whnf)
        | ((with_reducible refine forceNm_of ?_); conv => whnf)
        | ((with_reducible refine needm_of (fv_lenL (by assumption) (by assumption)) ?_); conv => whnf)
        | ((with_reducible refine optm_var (fv_strL (by assumption) (by assumption)) (fun s hs => ?_)); conv => whnf)
        | ((with_reducible refine forceA_of ?_); conv => whnf)
        | ((with_reducible refine forceL_fw (by assumption) ?_); conv => whnf)
        | ((with_reducible refine forceL_rfw (by assumption) ?_); conv => whnf)
        | ((with_reducible refine forceL_fl (by assumption) ?_); conv => whnf)
        | ((with_reducible refine forceL_rfl (by assumption) ?_); conv => whnf)
        | rw [hw]
        | ((with_reducible refine needm_of (by assumption) ?_); conv => whnf)
        | ((refine ⟨_, l0, ?_⟩); conv => whnf)
        | ((refine ⟨_, l1, ?_⟩); conv => whnf)
        | ((refine ⟨_, l2, ?_⟩); conv => whnf)
        | ((refine ⟨_, l3, ?_⟩); conv => whnf)
        | fail)
      refine condm_neg (by rw [u64w, List.length_append, hL0, q0]; simp) ?_
      conv => whnf
      repeat' (first
        | ((with_reducible refine regx_of ?_ ?_); (· decide +kernel); conv => whnf)
        | ((with_reducible refine growx_pre ?_ ?_); (· exact ⟨_, rfl⟩); conv => whnf)
        | ((with_reducible refine needm_of ?_ ?_); (· first | assumption | exact decide_eq_true (by omega) | exact mkOK_of (by decide) | decide +kernel | (refine decide_eq_true ?_; simp (disch := omega) only [i64w]; omega)); conv => whnf)
        | ((with_reducible refine condm_pos ?_ ?_); (· assumption); conv => whnf)
        | ((with_reducible refine condm_neg ?_ ?_); (· assumption); conv => whnf)
        | ((with_reducible refine forceL_fv (by assumption) ?_); conv => whnf)
        | ((with_reducible refine forceL_rfv (by assumption) ?_); conv => whnf)
        | ((with_reducible refine forceNm_of ?_); conv => whnf)
        | ((with_reducible refine needm_of (fv_lenL (by assumption) (by assumption)) ?_); conv => whnf)
        | ((with_reducible refine optm_var (fv_strL (by assumption) (by assumption)) (fun s hs => ?_)); conv => whnf)
        | ((with_reducible refine forceA_of ?_); conv => whnf)
        | ((with_reducible refine forceL_fw (by assumption) ?_); conv => whnf)
        | ((with_reducible refine forceL_rfw (by assumption) ?_); conv => whnf)
        | ((with_reducible refine forceL_fl (by assumption) ?_); conv => whnf)
        | ((with_reducible refine forceL_rfl (by assumption) ?_); conv => whnf)
        | rw [hw]
        | ((with_reducible refine needm_of (by assumption) ?_); conv => whnf)
        | ((refine ⟨_, l0, ?_⟩); conv => whnf)
        | ((refine ⟨_, l1, ?_⟩); conv => whnf)
        | ((refine ⟨_, l2, ?_⟩); conv => whnf)
        | ((refine ⟨_, l3, ?_⟩); conv => whnf)
        | fail)
      refine ⟨len - (i + 1), by omega, Into.weak [0, 1, 2, 3, 4, 5, 6, 7] (F7 (.rslc p len cap) (i + 1)) (H7 (n0) (c0) (n1) (c1) (n2) (c2) hn' h1 h2 b0 b1 b2) ⟨i + 1, T0 ++ L, T1, T2, n0, c0, n1, c1, n2, c2, hn', h1, h2, b0, b1, b2, by omega, rfl, lot', o1.mono (Nat.le_succ i), o2.mono (Nat.le_succ i), rfl, rfl⟩ ⟨rfl, rfl, rfl, rfl, trivial⟩ ⟨rfl, rfl, ren_fl hfln _ _ _, ren_fl hfl1 _ _ _, ren_fl hfl2 _ _ _, ren_fv hb0 _ _ _, ren_fv hb1 _ _ _, ren_fv hb2 _ _ _, trivial⟩ ?_⟩
      simp [nodupb, baseb, Ob.okb, frmOk, V.okb, A.okb, hfln.all, hfl1.all, hfl2.all, all_fv hb0, all_fv hb1, all_fv hb2] <;> decide
    · refine ⟨u8s L, by simp [s5], hro, ?_⟩
      conv => whnf
      refine condm_of (fun hc => ?_) (fun hc => ?_)
      · have hc' := of_decide_eq_true hc
        conv => whnf
        refine needm_of (decide_eq_true (by rw [s5, u8s_length]; omega)) ?_
        conv => whnf
        repeat' (first
          | ((with_reducible refine regx_of ?_ ?_); (· decide +kernel); conv => whnf)
          | ((with_reducible refine growx_pre ?_ ?_); (· exact ⟨_, rfl⟩); conv => whnf)
          | ((with_reducible refine needm_of ?_ ?_); (· first | assumption | exact decide_eq_true (by omega) | exact mkOK_of (by decide) | decide +kernel | (refine decide_eq_true ?_; simp (disch := omega) only [i64w]; omega)); conv => whnf)
          | ((with_reducible refine condm_pos ?_ ?_); (· assumption); conv => whnf)
          | ((with_reducible refine condm_neg ?_ ?_); (· assumption); conv => whnf)
          | ((with_reducible refine forceL_fv (by assumption) ?_); conv => whnf)
          | ((with_reducible refine forceL_rfv (by assumption) ?_); conv => whnf)
          | ((with_reducible refine forceNm_of ?_); conv => whnf)
          | ((with_reducible refine needm_of (fv_lenL (by assumption) (by assumption)) ?_); conv => whnf)
          | ((with_reducible refine optm_var (fv_strL (by assumption) (by assumption)) (fun s hs => ?_)); conv => whnf)
          | ((with_reducible refine forceA_of ?_); conv => whnf)
          | ((with_reducible refine forceL_fw (by assumption) ?_); conv => whnf)
          | ((with_reducible refine forceL_rfw (by assumption) ?_); conv => whnf)
          | ((with_reducible refine forceL_fl (by assumption) ?_); conv => whnf)
          | ((with_reducible refine forceL_rfl (by assumption) ?_); conv => whnf)
          | rw [hw]
          | ((with_reducible refine needm_of (by assumption) ?_); conv => whnf)
          | ((refine ⟨_, l0, ?_⟩); conv => whnf)
          | ((refine ⟨_, l1, ?_⟩); conv => whnf)
          | ((refine ⟨_, l2, ?_⟩); conv => whnf)
          | ((refine ⟨_, l3, ?_⟩); conv => whnf)
          | fail)
        refine forceL_var (app_rin hb0 q0 s5 (by omega)) (fun cs3 hcs3 => ?_)
        conv => whnf
        repeat' (first
          | ((with_reducible refine regx_of ?_ ?_); (· decide +kernel); conv => whnf)
          | ((with_reducible refine growx_pre ?_ ?_); (· exact ⟨_, rfl⟩); conv => whnf)
          | ((with_reducible refine needm_of ?_ ?_); (· first | assumption | exact decide_eq_true (by omega) | exact mkOK_of (by decide) | decide +kernel | (refine decide_eq_true ?_; simp (disch := omega) only [i64w]; omega)); conv => whnf)
          | ((with_reducible refine condm_pos ?_ ?_); (· assumption); conv => whnf)
          | ((with_reducible refine condm_neg ?_ ?_); (· assumption); conv => whnf)
          | ((with_reducible refine forceL_fv (by assumption) ?_); conv => whnf)
          | ((with_reducible refine forceL_rfv (by assumption) ?_); conv => whnf)
          | ((with_reducible refine forceNm_of ?_); conv => whnf)
          | ((with_reducible refine needm_of (fv_lenL (by assumption) (by assumption)) ?_); conv => whnf)
          | ((with_reducible refine optm_var (fv_strL (by assumption) (by assumption)) (fun s hs => ?_)); conv => whnf)
          | ((with_reducible refine forceA_of ?_); conv => whnf)
          | ((with_reducible refine forceL_fw (by assumption) ?_); conv => whnf)
          | ((with_reducible refine forceL_rfw (by assumption) ?_); conv => whnf)
          | ((with_reducible refine forceL_fl (by assumption) ?_); conv => whnf)
          | ((with_reducible refine forceL_rfl (by assumption) ?_); conv => whnf)
          | rw [hw]
          | ((with_reducible refine needm_of (by assumption) ?_); conv => whnf)
          | ((refine ⟨_, l0, ?_⟩); conv => whnf)
          | ((refine ⟨_, l1, ?_⟩); conv => whnf)
          | ((refine ⟨_, l2, ?_⟩); conv => whnf)
          | ((refine ⟨_, l3, ?_⟩); conv => whnf)
          | fail)
        refine Go.Eng.Fn.frame [2] (by rfl) (by exact ⟨ren_fl hfln _ _ _, trivial⟩) (by simp [nodupb, V.okb, A.okb, Ob.okb, hfln.all]) (len36n' (T0 ++ L) _ hn' hhn' ?_)
        conv => whnf
        refine growx_pre ⟨[], by rw [List.append_nil]; exact (plug_onen rfl (ren_fbn hfln _ _ _)).symm⟩ ?_
        conv => whnf
        repeat' (first
          | ((with_reducible refine regx_of ?_ ?_); (· decide +kernel); conv => whnf)
          | ((with_reducible refine growx_pre ?_ ?_); (· exact ⟨_, rfl⟩); conv => whnf)
          | ((with_reducible refine needm_of ?_ ?_); (· first | assumption | exact decide_eq_true (by omega) | exact mkOK_of (by decide) | decide +kernel | (refine decide_eq_true ?_; simp (disch := omega) only [i64w]; omega)); conv => whnf)
          | ((with_reducible refine condm_pos ?_ ?_); (· assumption); conv => whnf)
          | ((with_reducible refine condm_neg ?_ ?_); (· assumption); conv => whnf)
          | ((with_reducible refine forceL_fv (by assumption) ?_); conv => whnf)
          | ((with_reducible refine forceL_rfv (by assumption) ?_); conv => whnf)
          | ((with_reducible refine forceNm_of ?_); conv => whnf)
          | ((with_reducible refine needm_of (fv_lenL (by assumption) (by assumption)) ?_); conv => whnf)
          | ((with_reducible refine optm_var (fv_strL (by assumption) (by assumption)) (fun s hs => ?_)); conv => whnf)
          | ((with_reducible refine forceA_of ?_); conv => whnf)
          | ((with_reducible refine forceL_fw (by assumption) ?_); conv => whnf)
          | ((with_reducible refine forceL_rfw (by assumption) ?_); conv => whnf)
          | ((with_reducible refine forceL_fl (by assumption) ?_); conv => whnf)
          | ((with_reducible refine forceL_rfl (by assumption) ?_); conv => whnf)
          | rw [hw]
          | ((with_reducible refine needm_of (by assumption) ?_); conv => whnf)
          | ((refine ⟨_, l0, ?_⟩); conv => whnf)
          | ((refine ⟨_, l1, ?_⟩); conv => whnf)
          | ((refine ⟨_, l2, ?_⟩); conv => whnf)
          | ((refine ⟨_, l3, ?_⟩); conv => whnf)
          | fail)
        refine condm_neg (by rw [u64w, List.length_append, q0]; simp) ?_
        conv => whnf
        repeat' (first
          | ((with_reducible refine regx_of ?_ ?_); (· decide +kernel); conv => whnf)
          | ((with_reducible refine growx_pre ?_ ?_); (· exact ⟨_, rfl⟩); conv => whnf)
          | ((with_reducible refine needm_of ?_ ?_); (· first | assumption | exact decide_eq_true (by omega) | exact mkOK_of (by decide) | decide +kernel | (refine decide_eq_true ?_; simp (disch := omega) only [i64w]; omega)); conv => whnf)
          | ((with_reducible refine condm_pos ?_ ?_); (· assumption); conv => whnf)
          | ((with_reducible refine condm_neg ?_ ?_); (· assumption); conv => whnf)
          | ((with_reducible refine forceL_fv (by assumption) ?_); conv => whnf)
          | ((with_reducible refine forceL_rfv (by assumption) ?_); conv => whnf)
          | ((with_reducible refine forceNm_of ?_); conv => whnf)
          | ((with_reducible refine needm_of (fv_lenL (by assumption) (by assumption)) ?_); conv => whnf)
          | ((with_reducible refine optm_var (fv_strL (by assumption) (by assumption)) (fun s hs => ?_)); conv => whnf)
          | ((with_reducible refine forceA_of ?_); conv => whnf)
          | ((with_reducible refine forceL_fw (by assumption) ?_); conv => whnf)
          | ((with_reducible refine forceL_rfw (by assumption) ?_); conv => whnf)
          | ((with_reducible refine forceL_fl (by assumption) ?_); conv => whnf)
          | ((with_reducible refine forceL_rfl (by assumption) ?_); conv => whnf)
          | rw [hw]
          | ((with_reducible refine needm_of (by assumption) ?_); conv => whnf)
          | ((refine ⟨_, l0, ?_⟩); conv => whnf)
          | ((refine ⟨_, l1, ?_⟩); conv => whnf)
          | ((refine ⟨_, l2, ?_⟩); conv => whnf)
          | ((refine ⟨_, l3, ?_⟩); conv => whnf)
          | fail)
        refine ⟨len - (i + 1), by omega, Into.weak [0, 1, 2, 3, 4, 5, 6, 7] (F7 (.rslc p len cap) (i + 1)) (H7 (n0 + L.length) (c0) (n1) (c1) (n2) (c2) hn' h1 h2 cs3 b1 b2) ⟨i + 1, T0 ++ L, T1, T2, n0 + L.length, c0, n1, c1, n2, c2, hn', h1, h2, cs3, b1, b2, by omega, rfl, (⟨hhn', by rw [List.length_append]; omega, by rw [List.length_append]; omega, _, hcs3, by rw [List.length_drop]; omega⟩), o1.mono (Nat.le_succ i), o2.mono (Nat.le_succ i), rfl, rfl⟩ ⟨rfl, rfl, rfl, rfl, trivial⟩ ⟨rfl, rfl, ren_fl hfln _ _ _, ren_fl hfl1 _ _ _, ren_fl hfl2 _ _ _, ren_fv hcs3 _ _ _, ren_fv hb1 _ _ _, ren_fv hb2 _ _ _, trivial⟩ ?_⟩
        simp [nodupb, baseb, Ob.okb, frmOk, V.okb, A.okb, hfln.all, hfl1.all, hfl2.all, all_fv hcs3, all_fv hb1, all_fv hb2] <;> decide
      · have hc' := of_decide_eq_false hc
        conv => whnf
        refine needm_of (decide_eq_true (by rw [s5]; exact ⟨by omega, by show (_ : Nat) * 1 ≤ _; omega, by omega⟩)) ?_
        intro cap2 hcap2
        conv => whnf
        repeat' (first
          | ((with_reducible refine regx_of ?_ ?_); (· decide +kernel); conv => whnf)
          | ((with_reducible refine growx_pre ?_ ?_); (· exact ⟨_, rfl⟩); conv => whnf)
          | ((with_reducible refine needm_of ?_ ?_); (· first | assumption | exact decide_eq_true (by omega) | exact mkOK_of (by decide) | decide +kernel | (refine decide_eq_true ?_; simp (disch := omega) only [i64w]; omega)); conv => whnf)
          | ((with_reducible refine condm_pos ?_ ?_); (· assumption); conv => whnf)
          | ((with_reducible refine condm_neg ?_ ?_); (· assumption); conv => whnf)
          | ((with_reducible refine forceL_fv (by assumption) ?_); conv => whnf)
          | ((with_reducible refine forceL_rfv (by assumption) ?_); conv => whnf)
          | ((with_reducible refine forceNm_of ?_); conv => whnf)
          | ((with_reducible refine needm_of (fv_lenL (by assumption) (by assumption)) ?_); conv => whnf)
          | ((with_reducible refine optm_var (fv_strL (by assumption) (by assumption)) (fun s hs => ?_)); conv => whnf)
          | ((with_reducible refine forceA_of ?_); conv => whnf)
          | ((with_reducible refine forceL_fw (by assumption) ?_); conv => whnf)
          | ((with_reducible refine forceL_rfw (by assumption) ?_); conv => whnf)
          | ((with_reducible refine forceL_fl (by assumption) ?_); conv => whnf)
          | ((with_reducible refine forceL_rfl (by assumption) ?_); conv => whnf)
          | rw [hw]
          | ((with_reducible refine needm_of (by assumption) ?_); conv => whnf)
          | ((refine ⟨_, l0, ?_⟩); conv => whnf)
          | ((refine ⟨_, l1, ?_⟩); conv => whnf)
          | ((refine ⟨_, l2, ?_⟩); conv => whnf)
          | ((refine ⟨_, l3, ?_⟩); conv => whnf)
          | fail)
        refine forceL_var (app_rnew hb0 q0 s5) (fun cs3 hcs3 => ?_)
        conv => whnf
        repeat' (first
          | ((with_reducible refine regx_of ?_ ?_); (· decide +kernel); conv => whnf)
          | ((with_reducible refine growx_pre ?_ ?_); (· exact ⟨_, rfl⟩); conv => whnf)
          | ((with_reducible refine needm_of ?_ ?_); (· first | assumption | exact decide_eq_true (by omega) | exact mkOK_of (by decide) | decide +kernel | (refine decide_eq_true ?_; simp (disch := omega) only [i64w]; omega)); conv => whnf)
          | ((with_reducible refine condm_pos ?_ ?_); (· assumption); conv => whnf)
          | ((with_reducible refine condm_neg ?_ ?_); (· assumption); conv => whnf)
          | ((with_reducible refine forceL_fv (by assumption) ?_); conv => whnf)
          | ((with_reducible refine forceL_rfv (by assumption) ?_); conv => whnf)
          | ((with_reducible refine forceNm_of ?_); conv => whnf)
          | ((with_reducible refine needm_of (fv_lenL (by assumption) (by assumption)) ?_); conv => whnf)
          | ((with_reducible refine optm_var (fv_strL (by assumption) (by assumption)) (fun s hs => ?_)); conv => whnf)
          | ((with_reducible refine forceA_of ?_); conv => whnf)
          | ((with_reducible refine forceL_fw (by assumption) ?_); conv => whnf)
          | ((with_reducible refine forceL_rfw (by assumption) ?_); conv => whnf)
          | ((with_reducible refine forceL_fl (by assumption) ?_); conv => whnf)
          | ((with_reducible refine forceL_rfl (by assumption) ?_); conv => whnf)
          | rw [hw]
          | ((with_reducible refine needm_of (by assumption) ?_); conv => whnf)
          | ((refine ⟨_, l0, ?_⟩); conv => whnf)
          | ((refine ⟨_, l1, ?_⟩); conv => whnf)
          | ((refine ⟨_, l2, ?_⟩); conv => whnf)
          | ((refine ⟨_, l3, ?_⟩); conv => whnf)
          | fail)
        refine Go.Eng.Fn.frame [2] (by rfl) (by exact ⟨ren_fl hfln _ _ _, trivial⟩) (by simp [nodupb, V.okb, A.okb, Ob.okb, hfln.all]) (len36n' (T0 ++ L) _ hn' hhn' ?_)
        conv => whnf
        refine growx_pre ⟨[], by rw [List.append_nil]; exact (plug_onen rfl (ren_fbn hfln _ _ _)).symm⟩ ?_
        conv => whnf
        repeat' (first
          | ((with_reducible refine regx_of ?_ ?_); (· decide +kernel); conv => whnf)
          | ((with_reducible refine growx_pre ?_ ?_); (· exact ⟨_, rfl⟩); conv => whnf)
          | ((with_reducible refine needm_of ?_ ?_); (· first | assumption | exact decide_eq_true (by omega) | exact mkOK_of (by decide) | decide +kernel | (refine decide_eq_true ?_; simp (disch := omega) only [i64w]; omega)); conv => whnf)
          | ((with_reducible refine condm_pos ?_ ?_); (· assumption); conv => whnf)
          | ((with_reducible refine condm_neg ?_ ?_); (· assumption); conv => whnf)
          | ((with_reducible refine forceL_fv (by assumption) ?_); conv => whnf)
          | ((with_reducible refine forceL_rfv (by assumption) ?_); conv => whnf)
          | ((with_reducible refine forceNm_of ?_); conv => whnf)
          | ((with_reducible refine needm_of (fv_lenL (by assumption) (by assumption)) ?_); conv => whnf)
          | ((with_reducible refine optm_var (fv_strL (by assumption) (by assumption)) (fun s hs => ?_)); conv => whnf)
          | ((with_reducible refine forceA_of ?_); conv => whnf)
          | ((with_reducible refine forceL_fw (by assumption) ?_); conv => whnf)
          | ((with_reducible refine forceL_rfw (by assumption) ?_); conv => whnf)
          | ((with_reducible refine forceL_fl (by assumption) ?_); conv => whnf)
          | ((with_reducible refine forceL_rfl (by assumption) ?_); conv => whnf)
          | rw [hw]
          | ((with_reducible refine needm_of (by assumption) ?_); conv => whnf)
          | ((refine ⟨_, l0, ?_⟩); conv => whnf)
          | ((refine ⟨_, l1, ?_⟩); conv => whnf)
          | ((refine ⟨_, l2, ?_⟩); conv => whnf)
          | ((refine ⟨_, l3, ?_⟩); conv => whnf)
          | fail)
        refine condm_neg (by rw [u64w, List.length_append, q0]; simp) ?_
        conv => whnf
        repeat' (first
          | ((with_reducible refine regx_of ?_ ?_); (· decide +kernel); conv => whnf)
          | ((with_reducible refine growx_pre ?_ ?_); (· exact ⟨_, rfl⟩); conv => whnf)
          | ((with_reducible refine needm_of ?_ ?_); (· first | assumption | exact decide_eq_true (by omega) | exact mkOK_of (by decide) | decide +kernel | (refine decide_eq_true ?_; simp (disch := omega) only [i64w]; omega)); conv => whnf)
          | ((with_reducible refine condm_pos ?_ ?_); (· assumption); conv => whnf)
          | ((with_reducible refine condm_neg ?_ ?_); (· assumption); conv => whnf)
          | ((with_reducible refine forceL_fv (by assumption) ?_); conv => whnf)
          | ((with_reducible refine forceL_rfv (by assumption) ?_); conv => whnf)
          | ((with_reducible refine forceNm_of ?_); conv => whnf)
          | ((with_reducible refine needm_of (fv_lenL (by assumption) (by assumption)) ?_); conv => whnf)
          | ((with_reducible refine optm_var (fv_strL (by assumption) (by assumption)) (fun s hs => ?_)); conv => whnf)
          | ((with_reducible refine forceA_of ?_); conv => whnf)
          | ((with_reducible refine forceL_fw (by assumption) ?_); conv => whnf)
          | ((with_reducible refine forceL_rfw (by assumption) ?_); conv => whnf)
          | ((with_reducible refine forceL_fl (by assumption) ?_); conv => whnf)
          | ((with_reducible refine forceL_rfl (by assumption) ?_); conv => whnf)
          | rw [hw]
          | ((with_reducible refine needm_of (by assumption) ?_); conv => whnf)
          | ((refine ⟨_, l0, ?_⟩); conv => whnf)
          | ((refine ⟨_, l1, ?_⟩); conv => whnf)
          | ((refine ⟨_, l2, ?_⟩); conv => whnf)
          | ((refine ⟨_, l3, ?_⟩); conv => whnf)
          | fail)
        refine ⟨len - (i + 1), by omega, Into.weak [0, 1, 2, 3, 4, 9, 6, 7] (F7 (.rslc p len cap) (i + 1)) (H7 (n0 + L.length) (cap2) (n1) (c1) (n2) (c2) hn' h1 h2 cs3 b1 b2) ⟨i + 1, T0 ++ L, T1, T2, n0 + L.length, cap2, n1, c1, n2, c2, hn', h1, h2, cs3, b1, b2, by omega, rfl, (⟨hhn', by rw [List.length_append]; omega, by rw [List.length_append]; omega, _, hcs3, by rw [List.length_replicate]; omega⟩), o1.mono (Nat.le_succ i), o2.mono (Nat.le_succ i), rfl, rfl⟩ ⟨rfl, rfl, rfl, rfl, trivial⟩ ⟨rfl, rfl, ren_fl hfln _ _ _, ren_fl hfl1 _ _ _, ren_fl hfl2 _ _ _, ren_fv hcs3 _ _ _, ren_fv hb1 _ _ _, ren_fv hb2 _ _ _, trivial⟩ ?_⟩
        simp [nodupb, baseb, Ob.okb, frmOk, V.okb, A.okb, hfln.all, hfl1.all, hfl2.all, all_fv hcs3, all_fv hb1, all_fv hb2] <;> decide
  have e1 : (k == 1) = false := by simpa using k1
  by_cases k2 : k = 2
  · subst k2
    conv => whnf
    repeat' (first
      | ((with_reducible refine regx_of ?_ ?_); (· decide +kernel); conv => whnf)
      | ((with_reducible refine growx_pre ?_ ?_); (· exact ⟨_, rfl⟩); conv => whnf)
      | ((with_reducible refine needm_of ?_ ?_); (· first | assumption | exact decide_eq_true (by omega) | exact mkOK_of (by decide) | decide +kernel | (refine decide_eq_true ?_; simp (disch := omega) only [i64w]; omega)); conv => whnf)
      | ((with_reducible refine condm_pos ?_ ?_); (· assumption); conv => whnf)
      | ((with_reducible refine condm_neg ?_ ?_); (· assumption); conv => whnf)
      | ((with_reducible refine forceL_fv (by assumption) ?_); conv => whnf)
      | ((with_reducible refine forceL_rfv (by assumption) ?_); conv => whnf)
      | ((with_reducible refine forceNm_of ?_); conv => whnf)
      | ((with_reducible refine needm_of (fv_lenL (by assumption) (by assumption)) ?_); conv => whnf)
      | ((with_reducible refine optm_var (fv_strL (by assumption) (by assumption)) (fun s hs => ?_)); conv => whnf)
      | ((with_reducible refine forceA_of ?_); conv => whnf)
      | ((with_reducible refine forceL_fw (by assumption) ?_); conv => whnf)
      | ((with_reducible refine forceL_rfw (by assumption) ?_); conv => whnf)
      | ((with_reducible refine forceL_fl (by assumption) ?_); conv => whnf)
      | ((with_reducible refine forceL_rfl (by assumption) ?_); conv => whnf)
      | rw [hw]
      | ((with_reducible refine needm_of (by assumption) ?_); conv => whnf)
      | ((refine ⟨_, l0, ?_⟩); conv => whnf)
      | ((refine ⟨_, l1, ?_⟩); conv => whnf)
      | ((refine ⟨_, l2, ?_⟩); conv => whnf)
      | ((refine ⟨_, l3, ?_⟩); conv => whnf)
      | fail)
    rcases hx with ⟨rfl, hLn⟩ | ⟨p', cx, rfl, hro⟩
    ·
      conv => whnf
      repeat' (first
        | ((with_reducible refine regx_of ?_ ?_); (· decide +kernel); conv => whnf)
        | ((with_reducible refine growx_pre ?_ ?_); (· exact ⟨_, rfl⟩); conv => whnf)
        | ((with_reducible refine needm_of ?_ ?_); (· first | assumption | exact decide_eq_true (by omega) | exact mkOK_of (by decide) | decide +kernel | (refine decide_eq_true ?_; simp (disch := omega) only [i64w]; omega)); conv => whnf)
        | ((with_reducible refine condm_pos ?_ ?_); (· assumption); conv => whnf)
        | ((with_reducible refine condm_neg ?_ ?_); (· assumption); conv => whnf)
        | ((with_reducible refine forceL_fv (by assumption) ?_); conv => whnf)
        | ((with_reducible refine forceL_rfv (by assumption) ?_); conv => whnf)
        | ((with_reducible refine forceNm_of ?_); conv => whnf)
        | ((with_reducible refine needm_of (fv_lenL (by assumption) (by assumption)) ?_); conv => whnf)
        | ((with_reducible refine optm_var (fv_strL (by assumption) (by assumption)) (fun s hs => ?_)); conv => whnf)
        | ((with_reducible refine forceA_of ?_); conv => whnf)
        | ((with_reducible refine forceL_fw (by assumption) ?_); conv => whnf)
        | ((with_reducible refine forceL_rfw (by assumption) ?_); conv => whnf)
        | ((with_reducible refine forceL_fl (by assumption) ?_); conv => whnf)
        | ((with_reducible refine forceL_rfl (by assumption) ?_); conv => whnf)
        | rw [hw]
        | ((with_reducible refine needm_of (by assumption) ?_); conv => whnf)
        | ((refine ⟨_, l0, ?_⟩); conv => whnf)
        | ((refine ⟨_, l1, ?_⟩); conv => whnf)
        | ((refine ⟨_, l2, ?_⟩); conv => whnf)
        | ((refine ⟨_, l3, ?_⟩); conv => whnf)
        | fail)
      refine Go.Eng.Fn.frame [2] (by rfl) (by exact ⟨ren_fl hfl0 _ _ _, trivial⟩) (by simp [nodupb, V.okb, A.okb, Ob.okb, hfl0.all] <;> decide) (text32 T0 _ h0 _ L (by rw [hLn]) (by omega) o0.hs (fun hn' hhn' => ?_))
      rw [hs_len] at hhn'
      have hfln := hhn'.flat
      conv => whnf
      repeat' (first
        | ((with_reducible refine regx_of ?_ ?_); (· decide +kernel); conv => whnf)
        | ((with_reducible refine growx_pre ?_ ?_); (· exact ⟨_, rfl⟩); conv => whnf)
        | ((with_reducible refine needm_of ?_ ?_); (· first | assumption | exact decide_eq_true (by omega) | exact mkOK_of (by decide) | decide +kernel | (refine decide_eq_true ?_; simp (disch := omega) only [i64w]; omega)); conv => whnf)
        | ((with_reducible refine condm_pos ?_ ?_); (· assumption); conv => whnf)
        | ((with_reducible refine condm_neg ?_ ?_); (· assumption); conv => whnf)
        | ((with_reducible refine forceL_fv (by assumption) ?_); conv => whnf)
        | ((with_reducible refine forceL_rfv (by assumption) ?_); conv => whnf)
        | ((with_reducible refine forceNm_of ?_); conv => whnf)
        | ((with_reducible refine needm_of (fv_lenL (by assumption) (by assumption)) ?_); conv => whnf)
        | ((with_reducible refine optm_var (fv_strL (by assumption) (by assumption)) (fun s hs => ?_)); conv => whnf)
        | ((with_reducible refine forceA_of ?_); conv => whnf)
        | ((with_reducible refine forceL_fw (by assumption) ?_); conv => whnf)
        | ((with_reducible refine forceL_rfw (by assumption) ?_); conv => whnf)
        | ((with_reducible refine forceL_fl (by assumption) ?_); conv => whnf)
        | ((with_reducible refine forceL_rfl (by assumption) ?_); conv => whnf)
        | rw [hw]
        | ((with_reducible refine needm_of (by assumption) ?_); conv => whnf)
        | ((refine ⟨_, l0, ?_⟩); conv => whnf)
        | ((refine ⟨_, l1, ?_⟩); conv => whnf)
        | ((refine ⟨_, l2, ?_⟩); conv => whnf)
        | ((refine ⟨_, l3, ?_⟩); conv => whnf)
        | fail)
      have hL0 : L.length = 0 := by rw [hLn]; rfl
      have lot' : Lot (i + 1) (T0 ++ L) n0 c0 hn' b0 := by
        refine ⟨hhn', by rw [List.length_append]; omega, by rw [List.length_append]; omega, y0, ?_, hc0⟩
        rw [hLn, List.append_nil]
        exact hb0
      refine condm_pos (decide_eq_true (by omega)) ?_
      conv => whnf
      refine needm_of (decide_eq_true (by rw [s5]; simp only [List.length_nil]; omega)) ?_
      conv => whnf
      repeat' (first
        | ((with_reducible refine regx_of ?_ ?_); (· decide +kernel); conv => whnf)
        | ((with_reducible refine growx_pre ?_ ?_); (· exact ⟨_, rfl⟩); conv => whnf)
        | ((with_reducible refine needm_of ?_ ?_); (· first | assumption | exact decide_eq_true (by omega) | exact mkOK_of (by decide) | decide +kernel | (refine decide_eq_true ?_; simp (disch := omega) only [i64w]; omega)); conv => whnf)
        | ((with_reducible refine condm_pos ?_ ?_); (· assumption); conv => whnf)
        | ((with_reducible refine condm_neg ?_ ?_); (· assumption); conv => whnf)
        | ((with_reducible refine forceL_fv (by assumption) ?_); conv => whnf)
        | ((with_reducible refine forceL_rfv (by assumption) ?_); conv => whnf)
        | ((with_reducible refine forceNm_of ?_); conv => whnf)
        | ((with_reducible refine needm_of (fv_lenL (by assumption) (by assumption)) ?_); conv => whnf)
        | ((with_reducible refine optm_var (fv_strL (by assumption) (by assumption)) (fun s hs => ?_)); conv => whnf)
        | ((with_reducible refine forceA_of ?_); conv => whnf)
        | ((with_reducible refine forceL_fw (by assumption) ?_); conv => whnf)
        | ((with_reducible refine forceL_rfw (by assumption) ?_); conv => whnf)
        | ((with_reducible refine forceL_fl (by assumption) ?_); conv => whnf)
        | ((with_reducible refine forceL_rfl (by assumption) ?_); conv => whnf)
        | rw [hw]
        | ((with_reducible refine needm_of (by assumption) ?_); conv => whnf)
        | ((refine ⟨_, l0, ?_⟩); conv => whnf)
        | ((refine ⟨_, l1, ?_⟩); conv => whnf)
        | ((refine ⟨_, l2, ?_⟩); conv => whnf)
        | ((refine ⟨_, l3, ?_⟩); conv => whnf)
        | fail)
      refine forceL_to (l' := b0) rfl ?_
      conv => whnf
      repeat' (first
        | ((with_reducible refine regx_of ?_ ?_); (· decide +kernel); conv => whnf)
        | ((with_reducible refine growx_pre ?_ ?_); (· exact ⟨_, rfl⟩); conv => whnf)
        | ((with_reducible refine needm_of ?_ ?_); (· first | assumption | exact decide_eq_true (by omega) | exact mkOK_of (by decide) | decide +kernel | (refine decide_eq_true ?_; simp (disch := omega) only [i64w]; omega)); conv => whnf)
        | ((with_reducible refine condm_pos ?_ ?_); (· assumption); conv => whnf)
        | ((with_reducible refine condm_neg ?_ ?_); (· assumption); conv => whnf)
        | ((with_reducible refine forceL_fv (by assumption) ?_); conv => whnf)
        | ((with_reducible refine forceL_rfv (by assumption) ?_); conv => whnf)
        | ((with_reducible refine forceNm_of ?_); conv => whnf)
        | ((with_reducible refine needm_of (fv_lenL (by assumption) (by assumption)) ?_); conv => whnf)
        | ((with_reducible refine optm_var (fv_strL (by assumption) (by assumption)) (fun s hs => ?_)); conv => whnf)
        | ((with_reducible refine forceA_of ?_); conv => whnf)
        | ((with_reducible refine forceL_fw (by assumption) ?_); conv => whnf)
        | ((with_reducible refine forceL_rfw (by assumption) ?_); conv => whnf)
        | ((with_reducible refine forceL_fl (by assumption) ?_); conv => whnf)
        | ((with_reducible refine forceL_rfl (by assumption) ?_); conv => whnf)
        | rw [hw]
        | ((with_reducible refine needm_of (by assumption) ?_); conv => whnf)
        | ((refine ⟨_, l0, ?_⟩); conv => whnf)
        | ((refine ⟨_, l1, ?_⟩); conv => whnf)
        | ((refine ⟨_, l2, ?_⟩); conv => whnf)
        | ((refine ⟨_, l3, ?_⟩); conv => whnf)
        | fail)
      refine Go.Eng.Fn.frame [2] (by rfl) (by exact ⟨ren_fl hfln _ _ _, trivial⟩) (by simp [nodupb, V.okb, A.okb, Ob.okb, hfln.all]) (len36n' (T0 ++ L) _ hn' hhn' ?_)
      conv => whnf
      refine growx_pre ⟨[], by rw [List.append_nil]; exact (plug_onen rfl (ren_fbn hfln _ _ _)).symm⟩ ?_
      conv => whnf
      repeat' (first
        | ((with_reducible refine regx_of ?_ ?_); (· decide +kernel); conv => whnf)
        | ((with_reducible refine growx_pre ?_ ?_); (· exact ⟨_, rfl⟩); conv => whnf)
        | ((with_reducible refine needm_of ?_ ?_); (· first | assumption | exact decide_eq_true (by omega) | exact mkOK_of (by decide) | decide +kernel | (refine decide_eq_true ?_; simp (disch := omega) only [i64w]; omega)); conv => whnf)
        | ((with_reducible refine condm_pos ?_ ?_); (· assumption); conv => whnf)
        | ((with_reducible refine condm_neg ?_ ?_); (· assumption); conv => whnf)
        | ((with_reducible refine forceL_fv (by assumption) ?_); conv => whnf)
        | ((with_reducible refine forceL_rfv (by assumption) ?_); conv => whnf)
        | ((with_reducible refine forceNm_of ?_); conv => whnf)
        | ((with_reducible refine needm_of (fv_lenL (by assumption) (by assumption)) ?_); conv => whnf)
        | ((with_reducible refine optm_var (fv_strL (by assumption) (by assumption)) (fun s hs => ?_)); conv => whnf)
        | ((with_reducible refine forceA_of ?_); conv => whnf)
        | ((with_reducible refine forceL_fw (by assumption) ?_); conv => whnf)
        | ((with_reducible refine forceL_rfw (by assumption) ?_); conv => whnf)
        | ((with_reducible refine forceL_fl (by assumption) ?_); conv => whnf)
        | ((with_reducible refine forceL_rfl (by assumption) ?_); conv => whnf)
        | rw [hw]
        | ((with_reducible refine needm_of (by assumption) ?_); conv => whnf)
        | ((refine ⟨_, l0, ?_⟩); conv => whnf)
        | ((refine ⟨_, l1, ?_⟩); conv => whnf)
        | ((refine ⟨_, l2, ?_⟩); conv => whnf)
        | ((refine ⟨_, l3, ?_⟩); conv => whnf)
        | fail)
      refine condm_neg (by rw [u64w, List.length_append, hL0, q0]; simp) ?_
      conv => whnf
      repeat' (first
        | ((with_reducible refine regx_of ?_ ?_); (· decide +kernel); conv => whnf)
        | ((with_reducible refine growx_pre ?_ ?_); (· exact ⟨_, rfl⟩); conv => whnf)
        | ((with_reducible refine needm_of ?_ ?_); (· first | assumption | exact decide_eq_true (by omega) | exact mkOK_of (by decide) | decide +kernel | (refine decide_eq_true ?_; simp (disch := omega) only [i64w]; omega)); conv => whnf)
        | ((with_reducible refine condm_pos ?_ ?_); (· assumption); conv => whnf)
        | ((with_reducible refine condm_neg ?_ ?_); (· assumption); conv => whnf)
        | ((with_reducible refine forceL_fv (by assumption) ?_); conv => whnf)
        | ((with_reducible refine forceL_rfv (by assumption) ?_); conv => whnf)
        | ((with_reducible refine forceNm_of ?_); conv => whnf)
        | ((with_reducible refine needm_of (fv_lenL (by assumption) (by assumption)) ?_); conv => whnf)
        | ((with_reducible refine optm_var (fv_strL (by assumption) (by assumption)) (fun s hs => ?_)); conv => whnf)
        | ((with_reducible refine forceA_of ?_); conv => whnf)
        | ((with_reducible refine forceL_fw (by assumption) ?_); conv => whnf)
        | ((with_reducible refine forceL_rfw (by assumption) ?_); conv => whnf)
        | ((with_reducible refine forceL_fl (by assumption) ?_); conv => whnf)
        | ((with_reducible refine forceL_rfl (by assumption) ?_); conv => whnf)
        | rw [hw]
        | ((with_reducible refine needm_of (by assumption) ?_); conv => whnf)
        | ((refine ⟨_, l0, ?_⟩); conv => whnf)
        | ((refine ⟨_, l1, ?_⟩); conv => whnf)
        | ((refine ⟨_, l2, ?_⟩); conv => whnf)
        | ((refine ⟨_, l3, ?_⟩); conv => whnf)
        | fail)
      refine ⟨len - (i + 1), by omega, Into.weak [0, 1, 2, 3, 4, 5, 6, 7] (F7 (.rslc p len cap) (i + 1)) (H7 (n0) (c0) (n1) (c1) (n2) (c2) hn' h1 h2 b0 b1 b2) ⟨i + 1, T0 ++ L, T1, T2, n0, c0, n1, c1, n2, c2, hn', h1, h2, b0, b1, b2, by omega, rfl, lot', o1.mono (Nat.le_succ i), o2.mono (Nat.le_succ i), rfl, rfl⟩ ⟨rfl, rfl, rfl, rfl, trivial⟩ ⟨rfl, rfl, ren_fl hfln _ _ _, ren_fl hfl1 _ _ _, ren_fl hfl2 _ _ _, ren_fv hb0 _ _ _, ren_fv hb1 _ _ _, ren_fv hb2 _ _ _, trivial⟩ ?_⟩
      simp [nodupb, baseb, Ob.okb, frmOk, V.okb, A.okb, hfln.all, hfl1.all, hfl2.all, all_fv hb0, all_fv hb1, all_fv hb2] <;> decide
    ·
      conv => whnf
      repeat' (first
        | ((with_reducible refine regx_of ?_ ?_); (· decide +kernel); conv => whnf)
        | ((with_reducible refine growx_pre ?_ ?_); (· exact ⟨_, rfl⟩); conv => whnf)
        | ((with_reducible refine needm_of ?_ ?_); (· first | assumption | exact decide_eq_true (by omega) | exact mkOK_of (by decide) | decide +kernel | (refine decide_eq_true ?_; simp (disch := omega) only [i64w]; omega)); conv => whnf)
        | ((with_reducible refine condm_pos ?_ ?_); (· assumption); conv => whnf)
        | ((with_reducible refine condm_neg ?_ ?_); (· assumption); conv => whnf)
        | ((with_reducible refine forceL_fv (by assumption) ?_); conv => whnf)
        | ((with_reducible refine forceL_rfv (by assumption) ?_); conv => whnf)
        | ((with_reducible refine forceNm_of ?_); conv => whnf)
        | ((with_reducible refine needm_of (fv_lenL (by assumption) (by assumption)) ?_); conv => whnf)
        | ((with_reducible refine optm_var (fv_strL (by assumption) (by assumption)) (fun s hs => ?_)); conv => whnf)
        | ((with_reducible refine forceA_of ?_); conv => whnf)
        | ((with_reducible refine forceL_fw (by assumption) ?_); conv => whnf)
        | ((with_reducible refine forceL_rfw (by assumption) ?_); conv => whnf)
        | ((with_reducible refine forceL_fl (by assumption) ?_); conv => whnf)
        | ((with_reducible refine forceL_rfl (by assumption) ?_); conv => whnf)
        | rw [hw]
        | ((with_reducible refine needm_of (by assumption) ?_); conv => whnf)
        | ((refine ⟨_, l0, ?_⟩); conv => whnf)
        | ((refine ⟨_, l1, ?_⟩); conv => whnf)
        | ((refine ⟨_, l2, ?_⟩); conv => whnf)
        | ((refine ⟨_, l3, ?_⟩); conv => whnf)
        | fail)
      refine ⟨u8s L, by simp, hro, ?_⟩
      conv => whnf
      refine optm_var (bytesOf_u8s L) (fun s2 hs2 => ?_)
      conv => whnf
      repeat' (first
        | ((with_reducible refine regx_of ?_ ?_); (· decide +kernel); conv => whnf)
        | ((with_reducible refine growx_pre ?_ ?_); (· exact ⟨_, rfl⟩); conv => whnf)
        | ((with_reducible refine needm_of ?_ ?_); (· first | assumption | exact decide_eq_true (by omega) | exact mkOK_of (by decide) | decide +kernel | (refine decide_eq_true ?_; simp (disch := omega) only [i64w]; omega)); conv => whnf)
        | ((with_reducible refine condm_pos ?_ ?_); (· assumption); conv => whnf)
        | ((with_reducible refine condm_neg ?_ ?_); (· assumption); conv => whnf)
        | ((with_reducible refine forceL_fv (by assumption) ?_); conv => whnf)
        | ((with_reducible refine forceL_rfv (by assumption) ?_); conv => whnf)
        | ((with_reducible refine forceNm_of ?_); conv => whnf)
        | ((with_reducible refine needm_of (fv_lenL (by assumption) (by assumption)) ?_); conv => whnf)
        | ((with_reducible refine optm_var (fv_strL (by assumption) (by assumption)) (fun s hs => ?_)); conv => whnf)
        | ((with_reducible refine forceA_of ?_); conv => whnf)
        | ((with_reducible refine forceL_fw (by assumption) ?_); conv => whnf)
        | ((with_reducible refine forceL_rfw (by assumption) ?_); conv => whnf)
        | ((with_reducible refine forceL_fl (by assumption) ?_); conv => whnf)
        | ((with_reducible refine forceL_rfl (by assumption) ?_); conv => whnf)
        | rw [hw]
        | ((with_reducible refine needm_of (by assumption) ?_); conv => whnf)
        | ((refine ⟨_, l0, ?_⟩); conv => whnf)
        | ((refine ⟨_, l1, ?_⟩); conv => whnf)
        | ((refine ⟨_, l2, ?_⟩); conv => whnf)
        | ((refine ⟨_, l3, ?_⟩); conv => whnf)
        | fail)
      refine Go.Eng.Fn.frame [2] (by rfl) (by exact ⟨ren_fl hfl0 _ _ _, trivial⟩) (by simp [nodupb, V.okb, A.okb, Ob.okb, hfl0.all] <;> decide) (text32 T0 _ h0 _ L (by rw [hs2]) (by omega) o0.hs (fun hn' hhn' => ?_))
      rw [hs_len] at hhn'
      have hfln := hhn'.flat
      conv => whnf
      repeat' (first
        | ((with_reducible refine regx_of ?_ ?_); (· decide +kernel); conv => whnf)
        | ((with_reducible refine growx_pre ?_ ?_); (· exact ⟨_, rfl⟩); conv => whnf)
        | ((with_reducible refine needm_of ?_ ?_); (· first | assumption | exact decide_eq_true (by omega) | exact mkOK_of (by decide) | decide +kernel | (refine decide_eq_true ?_; simp (disch := omega) only [i64w]; omega)); conv => whnf)
        | ((with_reducible refine condm_pos ?_ ?_); (· assumption); conv => whnf)
        | ((with_reducible refine condm_neg ?_ ?_); (· assumption); conv => whnf)
        | ((with_reducible refine forceL_fv (by assumption) ?_); conv => whnf)
        | ((with_reducible refine forceL_rfv (by assumption) ?_); conv => whnf)
        | ((with_reducible refine forceNm_of ?_); conv => whnf)
        | ((with_reducible refine needm_of (fv_lenL (by assumption) (by assumption)) ?_); conv => whnf)
        | ((with_reducible refine optm_var (fv_strL (by assumption) (by assumption)) (fun s hs => ?_)); conv => whnf)
        | ((with_reducible refine forceA_of ?_); conv => whnf)
        | ((with_reducible refine forceL_fw (by assumption) ?_); conv => whnf)
        | ((with_reducible refine forceL_rfw (by assumption) ?_); conv => whnf)
        | ((with_reducible refine forceL_fl (by assumption) ?_); conv => whnf)
        | ((with_reducible refine forceL_rfl (by assumption) ?_); conv => whnf)
        | rw [hw]
        | ((with_reducible refine needm_of (by assumption) ?_); conv => whnf)
        | ((refine ⟨_, l0, ?_⟩); conv => whnf)
        | ((refine ⟨_, l1, ?_⟩); conv => whnf)
        | ((refine ⟨_, l2, ?_⟩); conv => whnf)
        | ((refine ⟨_, l3, ?_⟩); conv => whnf)
        | fail)
      refine ⟨u8s L, by simp [s5], hro, ?_⟩
      conv => whnf
      refine condm_of (fun hc => ?_) (fun hc => ?_)
      · have hc' := of_decide_eq_true hc
        conv => whnf
        refine needm_of (decide_eq_true (by rw [s5, u8s_length]; omega)) ?_
        conv => whnf
        repeat' (first
          | ((with_reducible refine regx_of ?_ ?_); (· decide +kernel); conv => whnf)
          | ((with_reducible refine growx_pre ?_ ?_); (· exact ⟨_, rfl⟩); conv => whnf)
          | ((with_reducible refine needm_of ?_ ?_); (· first | assumption | exact decide_eq_true (by omega) | exact mkOK_of (by decide) | decide +kernel | (refine decide_eq_true ?_; simp (disch := omega) only [i64w]; omega)); conv => whnf)
          | ((with_reducible refine condm_pos ?_ ?_); (· assumption); conv => whnf)
          | ((with_reducible refine condm_neg ?_ ?_); (· assumption); conv => whnf)
          | ((with_reducible refine forceL_fv (by assumption) ?_); conv => whnf)
          | ((with_reducible refine forceL_rfv (by assumption) ?_); conv => whnf)
          | ((with_reducible refine forceNm_of ?_); conv => whnf)
          | ((with_reducible refine needm_of (fv_lenL (by assumption) (by assumption)) ?_); conv => whnf)
          | ((with_reducible refine optm_var (fv_strL (by assumption) (by assumption)) (fun s hs => ?_)); conv => whnf)
          | ((with_reducible refine forceA_of ?_); conv => whnf)
          | ((with_reducible refine forceL_fw (by assumption) ?_); conv => whnf)
          | ((with_reducible refine forceL_rfw (by assumption) ?_); conv => whnf)
          | ((with_reducible refine forceL_fl (by assumption) ?_); conv => whnf)
          | ((with_reducible refine forceL_rfl (by assumption) ?_); conv => whnf)
          | rw [hw]
          | ((with_reducible refine needm_of (by assumption) ?_); conv => whnf)
          | ((refine ⟨_, l0, ?_⟩); conv => whnf)
          | ((refine ⟨_, l1, ?_⟩); conv => whnf)
          | ((refine ⟨_, l2, ?_⟩); conv => whnf)
          | ((refine ⟨_, l3, ?_⟩); conv => whnf)
          | fail)
        refine forceL_var (app_rin hb0 q0 s5 (by omega)) (fun cs3 hcs3 => ?_)
        conv => whnf
        repeat' (first
          | ((with_reducible refine regx_of ?_ ?_); (· decide +kernel); conv => whnf)
          | ((with_reducible refine growx_pre ?_ ?_); (· exact ⟨_, rfl⟩); conv => whnf)
          | ((with_reducible refine needm_of ?_ ?_); (· first | assumption | exact decide_eq_true (by omega) | exact mkOK_of (by decide) | decide +kernel | (refine decide_eq_true ?_; simp (disch := omega) only [i64w]; omega)); conv => whnf)
          | ((with_reducible refine condm_pos ?_ ?_); (· assumption); conv => whnf)
          | ((with_reducible refine condm_neg ?_ ?_); (· assumption); conv => whnf)
          | ((with_reducible refine forceL_fv (by assumption) ?_); conv => whnf)
          | ((with_reducible refine forceL_rfv (by assumption) ?_); conv => whnf)
          | ((with_reducible refine forceNm_of ?_); conv => whnf)
          | ((with_reducible refine needm_of (fv_lenL (by assumption) (by assumption)) ?_); conv => whnf)
          | ((with_reducible refine optm_var (fv_strL (by assumption) (by assumption)) (fun s hs => ?_)); conv => whnf)
          | ((with_reducible refine forceA_of ?_); conv => whnf)
          | ((with_reducible refine forceL_fw (by assumption) ?_); conv => whnf)
          | ((with_reducible refine forceL_rfw (by assumption) ?_); conv => whnf)
          | ((with_reducible refine forceL_fl (by assumption) ?_); conv => whnf)
          | ((with_reducible refine forceL_rfl (by assumption) ?_); conv => whnf)
          | rw [hw]
          | ((with_reducible refine needm_of (by assumption) ?_); conv => whnf)
          | ((refine ⟨_, l0, ?_⟩); conv => whnf)
          | ((refine ⟨_, l1, ?_⟩); conv => whnf)
          | ((refine ⟨_, l2, ?_⟩); conv => whnf)
          | ((refine ⟨_, l3, ?_⟩); conv => whnf)
          | fail)
        refine Go.Eng.Fn.frame [2] (by rfl) (by exact ⟨ren_fl hfln _ _ _, trivial⟩) (by simp [nodupb, V.okb, A.okb, Ob.okb, hfln.all]) (len36n' (T0 ++ L) _ hn' hhn' ?_)
        conv => whnf
        refine growx_pre ⟨[], by rw [List.append_nil]; exact (plug_onen rfl (ren_fbn hfln _ _ _)).symm⟩ ?_
        conv => whnf
        repeat' (first
          | ((with_reducible refine regx_of ?_ ?_); (· decide +kernel); conv => whnf)
          | ((with_reducible refine growx_pre ?_ ?_); (· exact ⟨_, rfl⟩); conv => whnf)
          | ((with_reducible refine needm_of ?_ ?_); (· first | assumption | exact decide_eq_true (by omega) | exact mkOK_of (by decide) | decide +kernel | (refine decide_eq_true ?_; simp (disch := omega) only [i64w]; omega)); conv => whnf)
          | ((with_reducible refine condm_pos ?_ ?_); (· assumption); conv => whnf)
          | ((with_reducible refine condm_neg ?_ ?_); (· assumption); conv => whnf)
          | ((with_reducible refine forceL_fv (by assumption) ?_); conv => whnf)
          | ((with_reducible refine forceL_rfv (by assumption) ?_); conv => whnf)
          | ((with_reducible refine forceNm_of ?_); conv => whnf)
          | ((with_reducible refine needm_of (fv_lenL (by assumption) (by assumption)) ?_); conv => whnf)
          | ((with_reducible refine optm_var (fv_strL (by assumption) (by assumption)) (fun s hs => ?_)); conv => whnf)
          | ((with_reducible refine forceA_of ?_); conv => whnf)
          | ((with_reducible refine forceL_fw (by assumption) ?_); conv => whnf)
          | ((with_reducible refine forceL_rfw (by assumption) ?_); conv => whnf)
          | ((with_reducible refine forceL_fl (by assumption) ?_); conv => whnf)
          | ((with_reducible refine forceL_rfl (by assumption) ?_); conv => whnf)
          | rw [hw]
          | ((with_reducible refine needm_of (by assumption) ?_); conv => whnf)
          | ((refine ⟨_, l0, ?_⟩); conv => whnf)
          | ((refine ⟨_, l1, ?_⟩); conv => whnf)
          | ((refine ⟨_, l2, ?_⟩); conv => whnf)
          | ((refine ⟨_, l3, ?_⟩); conv => whnf)
          | fail)
        refine condm_neg (by rw [u64w, List.length_append, q0]; simp) ?_
        conv => whnf
        repeat' (first
          | ((with_reducible refine regx_of ?_ ?_); (· decide +kernel); conv => whnf)
          | ((with_reducible refine growx_pre ?_ ?_); (· exact ⟨_, rfl⟩); conv => whnf)
          | ((with_reducible refine needm_of ?_ ?_); (· first | assumption | exact decide_eq_true (by omega) | exact mkOK_of (by decide) | decide +kernel | (refine decide_eq_true ?_; simp (disch := omega) only [i64w]; omega)); conv => whnf)
          | ((with_reducible refine condm_pos ?_ ?_); (· assumption); conv => whnf)
          | ((with_reducible refine condm_neg ?_ ?_); (· assumption); conv => whnf)
          | ((with_reducible refine forceL_fv (by assumption) ?_); conv => whnf)
          | ((with_reducible refine forceL_rfv (by assumption) ?_); conv => whnf)
          | ((with_reducible refine forceNm_of ?_); conv => whnf)
          | ((with_reducible refine needm_of (fv_lenL (by assumption) (by assumption)) ?_); conv => whnf)
          | ((with_reducible refine optm_var (fv_strL (by assumption) (by assumption)) (fun s hs => ?_)); conv => whnf)
          | ((with_reducible refine forceA_of ?_); conv => whnf)
          | ((with_reducible refine forceL_fw (by assumption) ?_); conv => whnf)
          | ((with_reducible refine forceL_rfw (by assumption) ?_); conv => whnf)
          | ((with_reducible refine forceL_fl (by assumption) ?_); conv => whnf)
          | ((with_reducible refine forceL_rfl (by assumption) ?_); conv => whnf)
          | rw [hw]
          | ((with_reducible refine needm_of (by assumption) ?_); conv => whnf)
          | ((refine ⟨_, l0, ?_⟩); conv => whnf)
          | ((refine ⟨_, l1, ?_⟩); conv => whnf)
          | ((refine ⟨_, l2, ?_⟩); conv => whnf)
          | ((refine ⟨_, l3, ?_⟩); conv => whnf)
          | fail)
        refine ⟨len - (i + 1), by omega, Into.weak [0, 1, 2, 3, 4, 5, 6, 7] (F7 (.rslc p len cap) (i + 1)) (H7 (n0 + L.length) (c0) (n1) (c1) (n2) (c2) hn' h1 h2 cs3 b1 b2) ⟨i + 1, T0 ++ L, T1, T2, n0 + L.length, c0, n1, c1, n2, c2, hn', h1, h2, cs3, b1, b2, by omega, rfl, (⟨hhn', by rw [List.length_append]; omega, by rw [List.length_append]; omega, _, hcs3, by rw [List.length_drop]; omega⟩), o1.mono (Nat.le_succ i), o2.mono (Nat.le_succ i), rfl, rfl⟩ ⟨rfl, rfl, rfl, rfl, trivial⟩ ⟨rfl, rfl, ren_fl hfln _ _ _, ren_fl hfl1 _ _ _, ren_fl hfl2 _ _ _, ren_fv hcs3 _ _ _, ren_fv hb1 _ _ _, ren_fv hb2 _ _ _, trivial⟩ ?_⟩
        simp [nodupb, baseb, Ob.okb, frmOk, V.okb, A.okb, hfln.all, hfl1.all, hfl2.all, all_fv hcs3, all_fv hb1, all_fv hb2] <;> decide
      · have hc' := of_decide_eq_false hc
        conv => whnf
        refine needm_of (decide_eq_true (by rw [s5]; exact ⟨by omega, by show (_ : Nat) * 1 ≤ _; omega, by omega⟩)) ?_
        intro cap2 hcap2
        conv => whnf
        repeat' (first
          | ((with_reducible refine regx_of ?_ ?_); (· decide +kernel); conv => whnf)
          | ((with_reducible refine growx_pre ?_ ?_); (· exact ⟨_, rfl⟩); conv => whnf)
          | ((with_reducible refine needm_of ?_ ?_); (· first | assumption | exact decide_eq_true (by omega) | exact mkOK_of (by decide) | decide +kernel | (refine decide_eq_true ?_; simp (disch := omega) only [i64w]; omega)); conv => whnf)
          | ((with_reducible refine condm_pos ?_ ?_); (· assumption); conv => whnf)
          | ((with_reducible refine condm_neg ?_ ?_); (· assumption); conv => whnf)
          | ((with_reducible refine forceL_fv (by assumption) ?_); conv => whnf)
          | ((with_reducible refine forceL_rfv (by assumption) ?_); conv => whnf)
          | ((with_reducible refine forceNm_of ?_); conv => whnf)
          | ((with_reducible refine needm_of (fv_lenL (by assumption) (by assumption)) ?_); conv => whnf)
          | ((with_reducible refine optm_var (fv_strL (by assumption) (by assumption)) (fun s hs => ?_)); conv => whnf)
          | ((with_reducible refine forceA_of ?_); conv => whnf)
          | ((with_reducible refine forceL_fw (by assumption) ?_); conv => whnf)
          | ((with_reducible refine forceL_rfw (by assumption) ?_); conv => whnf)
          | ((with_reducible refine forceL_fl (by assumption) ?_); conv => whnf)
          | ((with_reducible refine forceL_rfl (by assumption) ?_); conv => whnf)
          | rw [hw]
          | ((with_reducible refine needm_of (by assumption) ?_); conv => whnf)
          | ((refine ⟨_, l0, ?_⟩); conv => whnf)
          | ((refine ⟨_, l1, ?_⟩); conv => whnf)
          | ((refine ⟨_, l2, ?_⟩); conv => whnf)
          | ((refine ⟨_, l3, ?_⟩); conv => whnf)
          | fail)
        refine forceL_var (app_rnew hb0 q0 s5) (fun cs3 hcs3 => ?_)
        conv => whnf
        repeat' (first
          | ((with_reducible refine regx_of ?_ ?_); (· decide +kernel); conv => whnf)
          | ((with_reducible refine growx_pre ?_ ?_); (· exact ⟨_, rfl⟩); conv => whnf)
          | ((with_reducible refine needm_of ?_ ?_); (· first | assumption | exact decide_eq_true (by omega) | exact mkOK_of (by decide) | decide +kernel | (refine decide_eq_true ?_; simp (disch := omega) only [i64w]; omega)); conv => whnf)
          | ((with_reducible refine condm_pos ?_ ?_); (· assumption); conv => whnf)
          | ((with_reducible refine condm_neg ?_ ?_); (· assumption); conv => whnf)
          | ((with_reducible refine forceL_fv (by assumption) ?_); conv => whnf)
          | ((with_reducible refine forceL_rfv (by assumption) ?_); conv => whnf)
          | ((with_reducible refine forceNm_of ?_); conv => whnf)
          | ((with_reducible refine needm_of (fv_lenL (by assumption) (by assumption)) ?_); conv => whnf)
          | ((with_reducible refine optm_var (fv_strL (by assumption) (by assumption)) (fun s hs => ?_)); conv => whnf)
          | ((with_reducible refine forceA_of ?_); conv => whnf)
          | ((with_reducible refine forceL_fw (by assumption) ?_); conv => whnf)
          | ((with_reducible refine forceL_rfw (by assumption) ?_); conv => whnf)
          | ((with_reducible refine forceL_fl (by assumption) ?_); conv => whnf)
          | ((with_reducible refine forceL_rfl (by assumption) ?_); conv => whnf)
          | rw [hw]
          | ((with_reducible refine needm_of (by assumption) ?_); conv => whnf)
          | ((refine ⟨_, l0, ?_⟩); conv => whnf)
          | ((refine ⟨_, l1, ?_⟩); conv => whnf)
          | ((refine ⟨_, l2, ?_⟩); conv => whnf)
          | ((refine ⟨_, l3, ?_⟩); conv => whnf)
          | fail)
        refine Go.Eng.Fn.frame [2] (by rfl) (by exact ⟨ren_fl hfln _ _ _, trivial⟩) (by simp [nodupb, V.okb, A.okb, Ob.okb, hfln.all]) (len36n' (T0 ++ L) _ hn' hhn' ?_)
        conv => whnf
        refine growx_pre ⟨[], by rw [List.append_nil]; exact (plug_onen rfl (ren_fbn hfln _ _ _)).symm⟩ ?_
        conv => whnf
        repeat' (first
          | ((with_reducible refine regx_of ?_ ?_); (· decide +kernel); conv => whnf)
          | ((with_reducible refine growx_pre ?_ ?_); (· exact ⟨_, rfl⟩); conv => whnf)
          | ((with_reducible refine needm_of ?_ ?_); (· first | assumption | exact decide_eq_true (by omega) | exact mkOK_of (by decide) | decide +kernel | (refine decide_eq_true ?_; simp (disch := omega) only [i64w]; omega)); conv => whnf)
          | ((with_reducible refine condm_pos ?_ ?_); (· assumption); conv => whnf)
          | ((with_reducible refine condm_neg ?_ ?_); (· assumption); conv => whnf)
          | ((with_reducible refine forceL_fv (by assumption) ?_); conv => whnf)
          | ((with_reducible refine forceL_rfv (by assumption) ?_); conv => whnf)
          | ((with_reducible refine forceNm_of ?_); conv => whnf)
          | ((with_reducible refine needm_of (fv_lenL (by assumption) (by assumption)) ?_); conv => whnf)
          | ((with_reducible refine optm_var (fv_strL (by assumption) (by assumption)) (fun s hs => ?_)); conv => whnf)
          | ((with_reducible refine forceA_of ?_); conv => whnf)
          | ((with_reducible refine forceL_fw (by assumption) ?_); conv => whnf)
          | ((with_reducible refine forceL_rfw (by assumption) ?_); conv => whnf)
          | ((with_reducible refine forceL_fl (by assumption) ?_); conv => whnf)
          | ((with_reducible refine forceL_rfl (by assumption) ?_); conv => whnf)
          | rw [hw]
          | ((with_reducible refine needm_of (by assumption) ?_); conv => whnf)
          | ((refine ⟨_, l0, ?_⟩); conv => whnf)
          | ((refine ⟨_, l1, ?_⟩); conv => whnf)
          | ((refine ⟨_, l2, ?_⟩); conv => whnf)
          | ((refine ⟨_, l3, ?_⟩); conv => whnf)
          | fail)
        refine condm_neg (by rw [u64w, List.length_append, q0]; simp) ?_
        conv => whnf
        repeat' (first
          | ((with_reducible refine regx_of ?_ ?_); (· decide +kernel); conv => whnf)
          | ((with_reducible refine growx_pre ?_ ?_); (· exact ⟨_, rfl⟩); conv => whnf)
          | ((with_reducible refine needm_of ?_ ?_); (· first | assumption | exact decide_eq_true (by omega) | exact mkOK_of (by decide) | decide +kernel | (refine decide_eq_true ?_; simp (disch := omega) only [i64w]; omega)); conv => whnf)
          | ((with_reducible refine condm_pos ?_ ?_); (· assumption); conv => whnf)
          | ((with_reducible refine condm_neg ?_ ?_); (· assumption); conv => whnf)
          | ((with_reducible refine forceL_fv (by assumption) ?_); conv => whnf)
          | ((with_reducible refine forceL_rfv (by assumption) ?_); conv => whnf)
          | ((with_reducible refine forceNm_of ?_); conv => whnf)
          | ((with_reducible refine needm_of (fv_lenL (by assumption) (by assumption)) ?_); conv => whnf)
          | ((with_reducible refine optm_var (fv_strL (by assumption) (by assumption)) (fun s hs => ?_)); conv => whnf)
          | ((with_reducible refine forceA_of ?_); conv => whnf)
          | ((with_reducible refine forceL_fw (by assumption) ?_); conv => whnf)
          | ((with_reducible refine forceL_rfw (by assumption) ?_); conv => whnf)
          | ((with_reducible refine forceL_fl (by assumption) ?_); conv => whnf)
          | ((with_reducible refine forceL_rfl (by assumption) ?_); conv => whnf)
          | rw [hw]
          | ((with_reducible refine needm_of (by assumption) ?_); conv => whnf)
          | ((refine ⟨_, l0, ?_⟩); conv => whnf)
          | ((refine ⟨_, l1, ?_⟩); conv => whnf)
          | ((refine ⟨_, l2, ?_⟩); conv => whnf)
          | ((refine ⟨_, l3, ?_⟩); conv => whnf)
          | fail)
        refine ⟨len - (i + 1), by omega, Into.weak [0, 1, 2, 3, 4, 8, 6, 7] (F7 (.rslc p len cap) (i + 1)) (H7 (n0 + L.length) (cap2) (n1) (c1) (n2) (c2) hn' h1 h2 cs3 b1 b2) ⟨i + 1, T0 ++ L, T1, T2, n0 + L.length, cap2, n1, c1, n2, c2, hn', h1, h2, cs3, b1, b2, by omega, rfl, (⟨hhn', by rw [List.length_append]; omega, by rw [List.length_append]; omega, _, hcs3, by rw [List.length_replicate]; omega⟩), o1.mono (Nat.le_succ i), o2.mono (Nat.le_succ i), rfl, rfl⟩ ⟨rfl, rfl, rfl, rfl, trivial⟩ ⟨rfl, rfl, ren_fl hfln _ _ _, ren_fl hfl1 _ _ _, ren_fl hfl2 _ _ _, ren_fv hcs3 _ _ _, ren_fv hb1 _ _ _, ren_fv hb2 _ _ _, trivial⟩ ?_⟩
        simp [nodupb, baseb, Ob.okb, frmOk, V.okb, A.okb, hfln.all, hfl1.all, hfl2.all, all_fv hcs3, all_fv hb1, all_fv hb2] <;> decide
  have e2 : (k == 2) = false := by simpa using k2
  by_cases k3 : k = 3
  · subst k3
    conv => whnf
    repeat' (first
      | ((with_reducible refine regx_of ?_ ?_); (· decide +kernel); conv => whnf)
      | ((with_reducible refine growx_pre ?_ ?_); (· exact ⟨_, rfl⟩); conv => whnf)
      | ((with_reducible refine needm_of ?_ ?_); (· first | assumption | exact decide_eq_true (by omega) | exact mkOK_of (by decide) | decide +kernel | (refine decide_eq_true ?_; simp (disch := omega) only [i64w]; omega)); conv => whnf)
      | ((with_reducible refine condm_pos ?_ ?_); (· assumption); conv => whnf)
      | ((with_reducible refine condm_neg ?_ ?_); (· assumption); conv => whnf)
      | ((with_reducible refine forceL_fv (by assumption) ?_); conv => whnf)
      | ((with_reducible refine forceL_rfv (by assumption) ?_); conv => whnf)
      | ((with_reducible refine forceNm_of ?_); conv => whnf)
      | ((with_reducible refine needm_of (fv_lenL (by assumption) (by assumption)) ?_); conv => whnf)
      | ((with_reducible refine optm_var (fv_strL (by assumption) (by assumption)) (fun s hs => ?_)); conv => whnf)
      | ((with_reducible refine forceA_of ?_); conv => whnf)
      | ((with_reducible refine forceL_fw (by assumption) ?_); conv => whnf)
      | ((with_reducible refine forceL_rfw (by assumption) ?_); conv => whnf)
      | ((with_reducible refine forceL_fl (by assumption) ?_); conv => whnf)
      | ((with_reducible refine forceL_rfl (by assumption) ?_); conv => whnf)
      | rw [hw]
      | ((with_reducible refine needm_of (by assumption) ?_); conv => whnf)
      | ((refine ⟨_, l0, ?_⟩); conv => whnf)
      | ((refine ⟨_, l1, ?_⟩); conv => whnf)
      | ((refine ⟨_, l2, ?_⟩); conv => whnf)
      | ((refine ⟨_, l3, ?_⟩); conv => whnf)
      | fail)
    refine Go.Eng.Fn.frame [2] (by rfl) (by exact ⟨ren_fl hfl0 _ _ _, trivial⟩) (by simp [nodupb, V.okb, A.okb, Ob.okb, hfl0.all] <;> decide) (sum33 T0 _ rfl h0 o0.hs (fun os hos => ?_))
    have hol : os.length = 32 := by rw [u8s_len hos, digest_length]
    conv => whnf
    refine growx_pre ⟨[], by rw [List.append_nil]; exact (plug_onen rfl (ren_fbn hfl0 _ _ _)).symm⟩ ?_
    conv => whnf
    repeat' (first
      | ((with_reducible refine regx_of ?_ ?_); (· decide +kernel); conv => whnf)
      | ((with_reducible refine growx_pre ?_ ?_); (· exact ⟨_, rfl⟩); conv => whnf)
      | ((with_reducible refine needm_of ?_ ?_); (· first | assumption | exact decide_eq_true (by omega) | exact mkOK_of (by decide) | decide +kernel | (refine decide_eq_true ?_; simp (disch := omega) only [i64w]; omega)); conv => whnf)
      | ((with_reducible refine condm_pos ?_ ?_); (· assumption); conv => whnf)
      | ((with_reducible refine condm_neg ?_ ?_); (· assumption); conv => whnf)
      | ((with_reducible refine forceL_fv (by assumption) ?_); conv => whnf)
      | ((with_reducible refine forceL_rfv (by assumption) ?_); conv => whnf)
      | ((with_reducible refine forceNm_of ?_); conv => whnf)
      | ((with_reducible refine needm_of (fv_lenL (by assumption) (by assumption)) ?_); conv => whnf)
      | ((with_reducible refine optm_var (fv_strL (by assumption) (by assumption)) (fun s hs => ?_)); conv => whnf)
      | ((with_reducible refine forceA_of ?_); conv => whnf)
      | ((with_reducible refine forceL_fw (by assumption) ?_); conv => whnf)
      | ((with_reducible refine forceL_rfw (by assumption) ?_); conv => whnf)
      | ((with_reducible refine forceL_fl (by assumption) ?_); conv => whnf)
      | ((with_reducible refine forceL_rfl (by assumption) ?_); conv => whnf)
      | rw [hw]
      | ((with_reducible refine needm_of (by assumption) ?_); conv => whnf)
      | ((refine ⟨_, l0, ?_⟩); conv => whnf)
      | ((refine ⟨_, l1, ?_⟩); conv => whnf)
      | ((refine ⟨_, l2, ?_⟩); conv => whnf)
      | ((refine ⟨_, l3, ?_⟩); conv => whnf)
      | fail)
    refine Go.Eng.Fn.frame [] (by rfl) (by exact trivial) (by rfl) (of28 _ T0 (by rw [hs]) (by omega) (fun os2 hos2 => ?_))
    obtain rfl : os2 = os := hos2.trans hos.symm
    conv => whnf
    repeat' (first
      | ((with_reducible refine regx_of ?_ ?_); (· decide +kernel); conv => whnf)
      | ((with_reducible refine growx_pre ?_ ?_); (· exact ⟨_, rfl⟩); conv => whnf)
      | ((with_reducible refine needm_of ?_ ?_); (· first | assumption | exact decide_eq_true (by omega) | exact mkOK_of (by decide) | decide +kernel | (refine decide_eq_true ?_; simp (disch := omega) only [i64w]; omega)); conv => whnf)
      | ((with_reducible refine condm_pos ?_ ?_); (· assumption); conv => whnf)
      | ((with_reducible refine condm_neg ?_ ?_); (· assumption); conv => whnf)
      | ((with_reducible refine forceL_fv (by assumption) ?_); conv => whnf)
      | ((with_reducible refine forceL_rfv (by assumption) ?_); conv => whnf)
      | ((with_reducible refine forceNm_of ?_); conv => whnf)
      | ((with_reducible refine needm_of (fv_lenL (by assumption) (by assumption)) ?_); conv => whnf)
      | ((with_reducible refine optm_var (fv_strL (by assumption) (by assumption)) (fun s hs => ?_)); conv => whnf)
      | ((with_reducible refine forceA_of ?_); conv => whnf)
      | ((with_reducible refine forceL_fw (by assumption) ?_); conv => whnf)
      | ((with_reducible refine forceL_rfw (by assumption) ?_); conv => whnf)
      | ((with_reducible refine forceL_fl (by assumption) ?_); conv => whnf)
      | ((with_reducible refine forceL_rfl (by assumption) ?_); conv => whnf)
      | rw [hw]
      | ((with_reducible refine needm_of (by assumption) ?_); conv => whnf)
      | ((refine ⟨_, l0, ?_⟩); conv => whnf)
      | ((refine ⟨_, l1, ?_⟩); conv => whnf)
      | ((refine ⟨_, l2, ?_⟩); conv => whnf)
      | ((refine ⟨_, l3, ?_⟩); conv => whnf)
      | ((with_reducible refine needm_of ?_ ?_); (· (rw [hol]; rfl)); conv => whnf)
      | (refine ⟨_, same41n hos (digest_length T0), ?_⟩; conv => whnf)
      | fail)
    refine Go.Eng.Fn.frame [2] (by rfl) (by exact ⟨ren_fl hfl0 _ _ _, trivial⟩) (by simp [nodupb, V.okb, A.okb, Ob.okb, hfl0.all]) (len36n' T0 _ h0 o0.hs ?_)
    conv => whnf
    refine growx_pre ⟨[], by rw [List.append_nil]; exact (plug_onen rfl (ren_fbn hfl0 _ _ _)).symm⟩ ?_
    conv => whnf
    repeat' (first
      | ((with_reducible refine regx_of ?_ ?_); (· decide +kernel); conv => whnf)
      | ((with_reducible refine growx_pre ?_ ?_); (· exact ⟨_, rfl⟩); conv => whnf)
      | ((with_reducible refine needm_of ?_ ?_); (· first | assumption | exact decide_eq_true (by omega) | exact mkOK_of (by decide) | decide +kernel | (refine decide_eq_true ?_; simp (disch := omega) only [i64w]; omega)); conv => whnf)
      | ((with_reducible refine condm_pos ?_ ?_); (· assumption); conv => whnf)
      | ((with_reducible refine condm_neg ?_ ?_); (· assumption); conv => whnf)
      | ((with_reducible refine forceL_fv (by assumption) ?_); conv => whnf)
      | ((with_reducible refine forceL_rfv (by assumption) ?_); conv => whnf)
      | ((with_reducible refine forceNm_of ?_); conv => whnf)
      | ((with_reducible refine needm_of (fv_lenL (by assumption) (by assumption)) ?_); conv => whnf)
      | ((with_reducible refine optm_var (fv_strL (by assumption) (by assumption)) (fun s hs => ?_)); conv => whnf)
      | ((with_reducible refine forceA_of ?_); conv => whnf)
      | ((with_reducible refine forceL_fw (by assumption) ?_); conv => whnf)
      | ((with_reducible refine forceL_rfw (by assumption) ?_); conv => whnf)
      | ((with_reducible refine forceL_fl (by assumption) ?_); conv => whnf)
      | ((with_reducible refine forceL_rfl (by assumption) ?_); conv => whnf)
      | rw [hw]
      | ((with_reducible refine needm_of (by assumption) ?_); conv => whnf)
      | ((refine ⟨_, l0, ?_⟩); conv => whnf)
      | ((refine ⟨_, l1, ?_⟩); conv => whnf)
      | ((refine ⟨_, l2, ?_⟩); conv => whnf)
      | ((refine ⟨_, l3, ?_⟩); conv => whnf)
      | fail)
    refine condm_neg (by rw [u64w, q0]; simp) ?_
    conv => whnf
    repeat' (first
      | ((with_reducible refine regx_of ?_ ?_); (· decide +kernel); conv => whnf)
      | ((with_reducible refine growx_pre ?_ ?_); (· exact ⟨_, rfl⟩); conv => whnf)
      | ((with_reducible refine needm_of ?_ ?_); (· first | assumption | exact decide_eq_true (by omega) | exact mkOK_of (by decide) | decide +kernel | (refine decide_eq_true ?_; simp (disch := omega) only [i64w]; omega)); conv => whnf)
      | ((with_reducible refine condm_pos ?_ ?_); (· assumption); conv => whnf)
      | ((with_reducible refine condm_neg ?_ ?_); (· assumption); conv => whnf)
      | ((with_reducible refine forceL_fv (by assumption) ?_); conv => whnf)
      | ((with_reducible refine forceL_rfv (by assumption) ?_); conv => whnf)
      | ((with_reducible refine forceNm_of ?_); conv => whnf)
      | ((with_reducible refine needm_of (fv_lenL (by assumption) (by assumption)) ?_); conv => whnf)
      | ((with_reducible refine optm_var (fv_strL (by assumption) (by assumption)) (fun s hs => ?_)); conv => whnf)
      | ((with_reducible refine forceA_of ?_); conv => whnf)
      | ((with_reducible refine forceL_fw (by assumption) ?_); conv => whnf)
      | ((with_reducible refine forceL_rfw (by assumption) ?_); conv => whnf)
      | ((with_reducible refine forceL_fl (by assumption) ?_); conv => whnf)
      | ((with_reducible refine forceL_rfl (by assumption) ?_); conv => whnf)
      | rw [hw]
      | ((with_reducible refine needm_of (by assumption) ?_); conv => whnf)
      | ((refine ⟨_, l0, ?_⟩); conv => whnf)
      | ((refine ⟨_, l1, ?_⟩); conv => whnf)
      | ((refine ⟨_, l2, ?_⟩); conv => whnf)
      | ((refine ⟨_, l3, ?_⟩); conv => whnf)
      | fail)
    refine ⟨len - (i + 1), by omega, Into.weak [0, 1, 2, 3, 4, 5, 6, 7] (F7 (.rslc p len cap) (i + 1)) (H7 (n0) (c0) (n1) (c1) (n2) (c2) h0 h1 h2 b0 b1 b2) ⟨i + 1, T0, T1, T2, n0, c0, n1, c1, n2, c2, h0, h1, h2, b0, b1, b2, by omega, rfl, o0.mono (Nat.le_succ i), o1.mono (Nat.le_succ i), o2.mono (Nat.le_succ i), rfl, rfl⟩ ⟨rfl, rfl, rfl, rfl, trivial⟩ ⟨rfl, rfl, ren_fl hfl0 _ _ _, ren_fl hfl1 _ _ _, ren_fl hfl2 _ _ _, ren_fv hb0 _ _ _, ren_fv hb1 _ _ _, ren_fv hb2 _ _ _, trivial⟩ ?_⟩
    simp [nodupb, baseb, Ob.okb, frmOk, V.okb, A.okb, hfl0.all, hfl1.all, hfl2.all, all_fv hb0, all_fv hb1, all_fv hb2] <;> decide
  have e3 : (k == 3) = false := by simpa using k3
  by_cases k4 : k = 4
  · subst k4
    conv => whnf
    repeat' (first
      | ((with_reducible refine regx_of ?_ ?_); (· decide +kernel); conv => whnf)
      | ((with_reducible refine growx_pre ?_ ?_); (· exact ⟨_, rfl⟩); conv => whnf)
      | ((with_reducible refine needm_of ?_ ?_); (· first | assumption | exact decide_eq_true (by omega) | exact mkOK_of (by decide) | decide +kernel | (refine decide_eq_true ?_; simp (disch := omega) only [i64w]; omega)); conv => whnf)
      | ((with_reducible refine condm_pos ?_ ?_); (· assumption); conv => whnf)
      | ((with_reducible refine condm_neg ?_ ?_); (· assumption); conv => whnf)
      | ((with_reducible refine forceL_fv (by assumption) ?_); conv => whnf)
      | ((with_reducible refine forceL_rfv (by assumption) ?_); conv => whnf)
      | ((with_reducible refine forceNm_of ?_); conv => whnf)
      | ((with_reducible refine needm_of (fv_lenL (by assumption) (by assumption)) ?_); conv => whnf)
      | ((with_reducible refine optm_var (fv_strL (by assumption) (by assumption)) (fun s hs => ?_)); conv => whnf)
      | ((with_reducible refine forceA_of ?_); conv => whnf)
      | ((with_reducible refine forceL_fw (by assumption) ?_); conv => whnf)
      | ((with_reducible refine forceL_rfw (by assumption) ?_); conv => whnf)
      | ((with_reducible refine forceL_fl (by assumption) ?_); conv => whnf)
      | ((with_reducible refine forceL_rfl (by assumption) ?_); conv => whnf)
      | rw [hw]
      | ((with_reducible refine needm_of (by assumption) ?_); conv => whnf)
      | ((refine ⟨_, l0, ?_⟩); conv => whnf)
      | ((refine ⟨_, l1, ?_⟩); conv => whnf)
      | ((refine ⟨_, l2, ?_⟩); conv => whnf)
      | ((refine ⟨_, l3, ?_⟩); conv => whnf)
      | fail)
    refine Go.Eng.Fn.frame [] (by rfl) (by exact trivial) (by rfl) (three30 t ?_)
    rcases three_of t with ht | ht | ht
    · rw [ht]
      conv => whnf
      repeat' (first
        | ((with_reducible refine regx_of ?_ ?_); (· decide +kernel); conv => whnf)
        | ((with_reducible refine growx_pre ?_ ?_); (· exact ⟨_, rfl⟩); conv => whnf)
        | ((with_reducible refine needm_of ?_ ?_); (· first | assumption | exact decide_eq_true (by omega) | exact mkOK_of (by decide) | decide +kernel | (refine decide_eq_true ?_; simp (disch := omega) only [i64w]; omega)); conv => whnf)
        | ((with_reducible refine condm_pos ?_ ?_); (· assumption); conv => whnf)
        | ((with_reducible refine condm_neg ?_ ?_); (· assumption); conv => whnf)
        | ((with_reducible refine forceL_fv (by assumption) ?_); conv => whnf)
        | ((with_reducible refine forceL_rfv (by assumption) ?_); conv => whnf)
        | ((with_reducible refine forceNm_of ?_); conv => whnf)
        | ((with_reducible refine needm_of (fv_lenL (by assumption) (by assumption)) ?_); conv => whnf)
        | ((with_reducible refine optm_var (fv_strL (by assumption) (by assumption)) (fun s hs => ?_)); conv => whnf)
        | ((with_reducible refine forceA_of ?_); conv => whnf)
        | ((with_reducible refine forceL_fw (by assumption) ?_); conv => whnf)
        | ((with_reducible refine forceL_rfw (by assumption) ?_); conv => whnf)
        | ((with_reducible refine forceL_fl (by assumption) ?_); conv => whnf)
        | ((with_reducible refine forceL_rfl (by assumption) ?_); conv => whnf)
        | rw [hw]
        | ((with_reducible refine needm_of (by assumption) ?_); conv => whnf)
        | ((refine ⟨_, l0, ?_⟩); conv => whnf)
        | ((refine ⟨_, l1, ?_⟩); conv => whnf)
        | ((refine ⟨_, l2, ?_⟩); conv => whnf)
        | ((refine ⟨_, l3, ?_⟩); conv => whnf)
        | fail)
      refine Go.Eng.Fn.frame [2] (by rfl) (by exact ⟨ren_fl hfl0 _ _ _, trivial⟩) (by simp [nodupb, V.okb, A.okb, Ob.okb, hfl0.all] <;> decide) (copy34 T0 _ h0 o0.hs ?_)
      conv => whnf
      repeat' (first
        | ((with_reducible refine regx_of ?_ ?_); (· decide +kernel); conv => whnf)
        | ((with_reducible refine growx_pre ?_ ?_); (· exact ⟨_, rfl⟩); conv => whnf)
        | ((with_reducible refine needm_of ?_ ?_); (· first | assumption | exact decide_eq_true (by omega) | exact mkOK_of (by decide) | decide +kernel | (refine decide_eq_true ?_; simp (disch := omega) only [i64w]; omega)); conv => whnf)
        | ((with_reducible refine condm_pos ?_ ?_); (· assumption); conv => whnf)
        | ((with_reducible refine condm_neg ?_ ?_); (· assumption); conv => whnf)
        | ((with_reducible refine forceL_fv (by assumption) ?_); conv => whnf)
        | ((with_reducible refine forceL_rfv (by assumption) ?_); conv => whnf)
        | ((with_reducible refine forceNm_of ?_); conv => whnf)
        | ((with_reducible refine needm_of (fv_lenL (by assumption) (by assumption)) ?_); conv => whnf)
        | ((with_reducible refine optm_var (fv_strL (by assumption) (by assumption)) (fun s hs => ?_)); conv => whnf)
        | ((with_reducible refine forceA_of ?_); conv => whnf)
        | ((with_reducible refine forceL_fw (by assumption) ?_); conv => whnf)
        | ((with_reducible refine forceL_rfw (by assumption) ?_); conv => whnf)
        | ((with_reducible refine forceL_fl (by assumption) ?_); conv => whnf)
        | ((with_reducible refine forceL_rfl (by assumption) ?_); conv => whnf)
        | rw [hw]
        | ((with_reducible refine needm_of (by assumption) ?_); conv => whnf)
        | ((refine ⟨_, l0, ?_⟩); conv => whnf)
        | ((refine ⟨_, l1, ?_⟩); conv => whnf)
        | ((refine ⟨_, l2, ?_⟩); conv => whnf)
        | ((refine ⟨_, l3, ?_⟩); conv => whnf)
        | fail)
      refine needm_of (decide_eq_true (by rw [s5]; omega)) ?_
      rw [row_is hb0 q0 s5]
      conv => whnf
      refine condm_of (fun hc => ?_) (fun hc => ?_)
      · have hc' := of_decide_eq_true hc
        have hT0 : T0 = [] := List.eq_nil_of_length_eq_zero (by omega)
        conv => whnf
        refine needm_of (decide_eq_true (by rw [u8s_length]; simp only [List.length_nil]; omega)) ?_
        conv => whnf
        repeat' (first
          | ((with_reducible refine regx_of ?_ ?_); (· decide +kernel); conv => whnf)
          | ((with_reducible refine growx_pre ?_ ?_); (· exact ⟨_, rfl⟩); conv => whnf)
          | ((with_reducible refine needm_of ?_ ?_); (· first | assumption | exact decide_eq_true (by omega) | exact mkOK_of (by decide) | decide +kernel | (refine decide_eq_true ?_; simp (disch := omega) only [i64w]; omega)); conv => whnf)
          | ((with_reducible refine condm_pos ?_ ?_); (· assumption); conv => whnf)
          | ((with_reducible refine condm_neg ?_ ?_); (· assumption); conv => whnf)
          | ((with_reducible refine forceL_fv (by assumption) ?_); conv => whnf)
          | ((with_reducible refine forceL_rfv (by assumption) ?_); conv => whnf)
          | ((with_reducible refine forceNm_of ?_); conv => whnf)
          | ((with_reducible refine needm_of (fv_lenL (by assumption) (by assumption)) ?_); conv => whnf)
          | ((with_reducible refine optm_var (fv_strL (by assumption) (by assumption)) (fun s hs => ?_)); conv => whnf)
          | ((with_reducible refine forceA_of ?_); conv => whnf)
          | ((with_reducible refine forceL_fw (by assumption) ?_); conv => whnf)
          | ((with_reducible refine forceL_rfw (by assumption) ?_); conv => whnf)
          | ((with_reducible refine forceL_fl (by assumption) ?_); conv => whnf)
          | ((with_reducible refine forceL_rfl (by assumption) ?_); conv => whnf)
          | rw [hw]
          | ((with_reducible refine needm_of (by assumption) ?_); conv => whnf)
          | ((refine ⟨_, l0, ?_⟩); conv => whnf)
          | ((refine ⟨_, l1, ?_⟩); conv => whnf)
          | ((refine ⟨_, l2, ?_⟩); conv => whnf)
          | ((refine ⟨_, l3, ?_⟩); conv => whnf)
          | fail)
        refine forceL_var (l' := u8s (T0 ++ [])) (by rw [hT0]; simp [storeL]) (fun cs3 hcs3 => ?_)
        conv => whnf
        repeat' (first
          | ((with_reducible refine regx_of ?_ ?_); (· decide +kernel); conv => whnf)
          | ((with_reducible refine growx_pre ?_ ?_); (· exact ⟨_, rfl⟩); conv => whnf)
          | ((with_reducible refine needm_of ?_ ?_); (· first | assumption | exact decide_eq_true (by omega) | exact mkOK_of (by decide) | decide +kernel | (refine decide_eq_true ?_; simp (disch := omega) only [i64w]; omega)); conv => whnf)
          | ((with_reducible refine condm_pos ?_ ?_); (· assumption); conv => whnf)
          | ((with_reducible refine condm_neg ?_ ?_); (· assumption); conv => whnf)
          | ((with_reducible refine forceL_fv (by assumption) ?_); conv => whnf)
          | ((with_reducible refine forceL_rfv (by assumption) ?_); conv => whnf)
          | ((with_reducible refine forceNm_of ?_); conv => whnf)
          | ((with_reducible refine needm_of (fv_lenL (by assumption) (by assumption)) ?_); conv => whnf)
          | ((with_reducible refine optm_var (fv_strL (by assumption) (by assumption)) (fun s hs => ?_)); conv => whnf)
          | ((with_reducible refine forceA_of ?_); conv => whnf)
          | ((with_reducible refine forceL_fw (by assumption) ?_); conv => whnf)
          | ((with_reducible refine forceL_rfw (by assumption) ?_); conv => whnf)
          | ((with_reducible refine forceL_fl (by assumption) ?_); conv => whnf)
          | ((with_reducible refine forceL_rfl (by assumption) ?_); conv => whnf)
          | rw [hw]
          | ((with_reducible refine needm_of (by assumption) ?_); conv => whnf)
          | ((refine ⟨_, l0, ?_⟩); conv => whnf)
          | ((refine ⟨_, l1, ?_⟩); conv => whnf)
          | ((refine ⟨_, l2, ?_⟩); conv => whnf)
          | ((refine ⟨_, l3, ?_⟩); conv => whnf)
          | fail)
        refine Go.Eng.Fn.frame [8] (by rfl) (by exact ⟨ren_fl hfl0 _ _ _, trivial⟩) (by simp [nodupb, V.okb, A.okb, Ob.okb, hfl0.all]) (len36n' T0 _ h0 o0.hs ?_)
        conv => whnf
        refine growx_pre ⟨[], by rw [List.append_nil]; exact (plug_onen rfl (ren_fbn hfl0 _ _ _)).symm⟩ ?_
        conv => whnf
        repeat' (first
          | ((with_reducible refine regx_of ?_ ?_); (· decide +kernel); conv => whnf)
          | ((with_reducible refine growx_pre ?_ ?_); (· exact ⟨_, rfl⟩); conv => whnf)
          | ((with_reducible refine needm_of ?_ ?_); (· first | assumption | exact decide_eq_true (by omega) | exact mkOK_of (by decide) | decide +kernel | (refine decide_eq_true ?_; simp (disch := omega) only [i64w]; omega)); conv => whnf)
          | ((with_reducible refine condm_pos ?_ ?_); (· assumption); conv => whnf)
          | ((with_reducible refine condm_neg ?_ ?_); (· assumption); conv => whnf)
          | ((with_reducible refine forceL_fv (by assumption) ?_); conv => whnf)
          | ((with_reducible refine forceL_rfv (by assumption) ?_); conv => whnf)
          | ((with_reducible refine forceNm_of ?_); conv => whnf)
          | ((with_reducible refine needm_of (fv_lenL (by assumption) (by assumption)) ?_); conv => whnf)
          | ((with_reducible refine optm_var (fv_strL (by assumption) (by assumption)) (fun s hs => ?_)); conv => whnf)
          | ((with_reducible refine forceA_of ?_); conv => whnf)
          | ((with_reducible refine forceL_fw (by assumption) ?_); conv => whnf)
          | ((with_reducible refine forceL_rfw (by assumption) ?_); conv => whnf)
          | ((with_reducible refine forceL_fl (by assumption) ?_); conv => whnf)
          | ((with_reducible refine forceL_rfl (by assumption) ?_); conv => whnf)
          | rw [hw]
          | ((with_reducible refine needm_of (by assumption) ?_); conv => whnf)
          | ((refine ⟨_, l0, ?_⟩); conv => whnf)
          | ((refine ⟨_, l1, ?_⟩); conv => whnf)
          | ((refine ⟨_, l2, ?_⟩); conv => whnf)
          | ((refine ⟨_, l3, ?_⟩); conv => whnf)
          | fail)
        refine condm_neg (by rw [u64w, Nat.zero_add, q0]; simp) ?_
        conv => whnf
        repeat' (first
          | ((with_reducible refine regx_of ?_ ?_); (· decide +kernel); conv => whnf)
          | ((with_reducible refine growx_pre ?_ ?_); (· exact ⟨_, rfl⟩); conv => whnf)
          | ((with_reducible refine needm_of ?_ ?_); (· first | assumption | exact decide_eq_true (by omega) | exact mkOK_of (by decide) | decide +kernel | (refine decide_eq_true ?_; simp (disch := omega) only [i64w]; omega)); conv => whnf)
          | ((with_reducible refine condm_pos ?_ ?_); (· assumption); conv => whnf)
          | ((with_reducible refine condm_neg ?_ ?_); (· assumption); conv => whnf)
          | ((with_reducible refine forceL_fv (by assumption) ?_); conv => whnf)
          | ((with_reducible refine forceL_rfv (by assumption) ?_); conv => whnf)
          | ((with_reducible refine forceNm_of ?_); conv => whnf)
          | ((with_reducible refine needm_of (fv_lenL (by assumption) (by assumption)) ?_); conv => whnf)
          | ((with_reducible refine optm_var (fv_strL (by assumption) (by assumption)) (fun s hs => ?_)); conv => whnf)
          | ((with_reducible refine forceA_of ?_); conv => whnf)
          | ((with_reducible refine forceL_fw (by assumption) ?_); conv => whnf)
          | ((with_reducible refine forceL_rfw (by assumption) ?_); conv => whnf)
          | ((with_reducible refine forceL_fl (by assumption) ?_); conv => whnf)
          | ((with_reducible refine forceL_rfl (by assumption) ?_); conv => whnf)
          | rw [hw]
          | ((with_reducible refine needm_of (by assumption) ?_); conv => whnf)
          | ((refine ⟨_, l0, ?_⟩); conv => whnf)
          | ((refine ⟨_, l1, ?_⟩); conv => whnf)
          | ((refine ⟨_, l2, ?_⟩); conv => whnf)
          | ((refine ⟨_, l3, ?_⟩); conv => whnf)
          | fail)
        refine ⟨len - (i + 1), by omega, Into.weak [0, 1, 8, 3, 4, 9, 6, 7] (F7 (.rslc p len cap) (i + 1)) (H7 (0 + n0) (0) (n1) (c1) (n2) (c2) h0 h1 h2 cs3 b1 b2) ⟨i + 1, T0, T1, T2, 0 + n0, 0, n1, c1, n2, c2, h0, h1, h2, cs3, b1, b2, by omega, rfl, (⟨o0.hs, by rw [Nat.zero_add]; exact q0, (o0.mono (Nat.le_succ i)).le, _, hcs3, by simp only [List.length_nil]; omega⟩), o1.mono (Nat.le_succ i), o2.mono (Nat.le_succ i), rfl, rfl⟩ ⟨rfl, rfl, rfl, rfl, trivial⟩ ⟨rfl, rfl, ren_fl hfl0 _ _ _, ren_fl hfl1 _ _ _, ren_fl hfl2 _ _ _, ren_fv hcs3 _ _ _, ren_fv hb1 _ _ _, ren_fv hb2 _ _ _, trivial⟩ ?_⟩
        simp [nodupb, baseb, Ob.okb, frmOk, V.okb, A.okb, hfl0.all, hfl1.all, hfl2.all, all_fv hcs3, all_fv hb1, all_fv hb2] <;> decide
      · have hc' := of_decide_eq_false hc
        conv => whnf
        refine needm_of (decide_eq_true (by rw [s5]; exact ⟨by omega, by show (_ : Nat) * 1 ≤ _; omega, by omega⟩)) ?_
        intro cap2 hcap2
        conv => whnf
        repeat' (first
          | ((with_reducible refine regx_of ?_ ?_); (· decide +kernel); conv => whnf)
          | ((with_reducible refine growx_pre ?_ ?_); (· exact ⟨_, rfl⟩); conv => whnf)
          | ((with_reducible refine needm_of ?_ ?_); (· first | assumption | exact decide_eq_true (by omega) | exact mkOK_of (by decide) | decide +kernel | (refine decide_eq_true ?_; simp (disch := omega) only [i64w]; omega)); conv => whnf)
          | ((with_reducible refine condm_pos ?_ ?_); (· assumption); conv => whnf)
          | ((with_reducible refine condm_neg ?_ ?_); (· assumption); conv => whnf)
          | ((with_reducible refine forceL_fv (by assumption) ?_); conv => whnf)
          | ((with_reducible refine forceL_rfv (by assumption) ?_); conv => whnf)
          | ((with_reducible refine forceNm_of ?_); conv => whnf)
          | ((with_reducible refine needm_of (fv_lenL (by assumption) (by assumption)) ?_); conv => whnf)
          | ((with_reducible refine optm_var (fv_strL (by assumption) (by assumption)) (fun s hs => ?_)); conv => whnf)
          | ((with_reducible refine forceA_of ?_); conv => whnf)
          | ((with_reducible refine forceL_fw (by assumption) ?_); conv => whnf)
          | ((with_reducible refine forceL_rfw (by assumption) ?_); conv => whnf)
          | ((with_reducible refine forceL_fl (by assumption) ?_); conv => whnf)
          | ((with_reducible refine forceL_rfl (by assumption) ?_); conv => whnf)
          | rw [hw]
          | ((with_reducible refine needm_of (by assumption) ?_); conv => whnf)
          | ((refine ⟨_, l0, ?_⟩); conv => whnf)
          | ((refine ⟨_, l1, ?_⟩); conv => whnf)
          | ((refine ⟨_, l2, ?_⟩); conv => whnf)
          | ((refine ⟨_, l3, ?_⟩); conv => whnf)
          | fail)
        refine forceL_var (l' := u8s (T0 ++ List.replicate (cap2 - (0 + n0)) 0)) (by rw [s5]; simp only [Nat.zero_mul, Nat.zero_add, List.take_nil, List.drop_nil, List.nil_append, Nat.mul_one]; rw [repl_u8, ← u8s_append]) (fun cs3 hcs3 => ?_)
        conv => whnf
        repeat' (first
          | ((with_reducible refine regx_of ?_ ?_); (· decide +kernel); conv => whnf)
          | ((with_reducible refine growx_pre ?_ ?_); (· exact ⟨_, rfl⟩); conv => whnf)
          | ((with_reducible refine needm_of ?_ ?_); (· first | assumption | exact decide_eq_true (by omega) | exact mkOK_of (by decide) | decide +kernel | (refine decide_eq_true ?_; simp (disch := omega) only [i64w]; omega)); conv => whnf)
          | ((with_reducible refine condm_pos ?_ ?_); (· assumption); conv => whnf)
          | ((with_reducible refine condm_neg ?_ ?_); (· assumption); conv => whnf)
          | ((with_reducible refine forceL_fv (by assumption) ?_); conv => whnf)
          | ((with_reducible refine forceL_rfv (by assumption) ?_); conv => whnf)
          | ((with_reducible refine forceNm_of ?_); conv => whnf)
          | ((with_reducible refine needm_of (fv_lenL (by assumption) (by assumption)) ?_); conv => whnf)
          | ((with_reducible refine optm_var (fv_strL (by assumption) (by assumption)) (fun s hs => ?_)); conv => whnf)
          | ((with_reducible refine forceA_of ?_); conv => whnf)
          | ((with_reducible refine forceL_fw (by assumption) ?_); conv => whnf)
          | ((with_reducible refine forceL_rfw (by assumption) ?_); conv => whnf)
          | ((with_reducible refine forceL_fl (by assumption) ?_); conv => whnf)
          | ((with_reducible refine forceL_rfl (by assumption) ?_); conv => whnf)
          | rw [hw]
          | ((with_reducible refine needm_of (by assumption) ?_); conv => whnf)
          | ((refine ⟨_, l0, ?_⟩); conv => whnf)
          | ((refine ⟨_, l1, ?_⟩); conv => whnf)
          | ((refine ⟨_, l2, ?_⟩); conv => whnf)
          | ((refine ⟨_, l3, ?_⟩); conv => whnf)
          | fail)
        refine Go.Eng.Fn.frame [8] (by rfl) (by exact ⟨ren_fl hfl0 _ _ _, trivial⟩) (by simp [nodupb, V.okb, A.okb, Ob.okb, hfl0.all]) (len36n' T0 _ h0 o0.hs ?_)
        conv => whnf
        refine growx_pre ⟨[], by rw [List.append_nil]; exact (plug_onen rfl (ren_fbn hfl0 _ _ _)).symm⟩ ?_
        conv => whnf
        repeat' (first
          | ((with_reducible refine regx_of ?_ ?_); (· decide +kernel); conv => whnf)
          | ((with_reducible refine growx_pre ?_ ?_); (· exact ⟨_, rfl⟩); conv => whnf)
          | ((with_reducible refine needm_of ?_ ?_); (· first | assumption | exact decide_eq_true (by omega) | exact mkOK_of (by decide) | decide +kernel | (refine decide_eq_true ?_; simp (disch := omega) only [i64w]; omega)); conv => whnf)
          | ((with_reducible refine condm_pos ?_ ?_); (· assumption); conv => whnf)
          | ((with_reducible refine condm_neg ?_ ?_); (· assumption); conv => whnf)
          | ((with_reducible refine forceL_fv (by assumption) ?_); conv => whnf)
          | ((with_reducible refine forceL_rfv (by assumption) ?_); conv => whnf)
          | ((with_reducible refine forceNm_of ?_); conv => whnf)
          | ((with_reducible refine needm_of (fv_lenL (by assumption) (by assumption)) ?_); conv => whnf)
          | ((with_reducible refine optm_var (fv_strL (by assumption) (by assumption)) (fun s hs => ?_)); conv => whnf)
          | ((with_reducible refine forceA_of ?_); conv => whnf)
          | ((with_reducible refine forceL_fw (by assumption) ?_); conv => whnf)
          | ((with_reducible refine forceL_rfw (by assumption) ?_); conv => whnf)
          | ((with_reducible refine forceL_fl (by assumption) ?_); conv => whnf)
          | ((with_reducible refine forceL_rfl (by assumption) ?_); conv => whnf)
          | rw [hw]
          | ((with_reducible refine needm_of (by assumption) ?_); conv => whnf)
          | ((refine ⟨_, l0, ?_⟩); conv => whnf)
          | ((refine ⟨_, l1, ?_⟩); conv => whnf)
          | ((refine ⟨_, l2, ?_⟩); conv => whnf)
          | ((refine ⟨_, l3, ?_⟩); conv => whnf)
          | fail)
        refine condm_neg (by rw [u64w, Nat.zero_add, q0]; simp) ?_
        conv => whnf
        repeat' (first
          | ((with_reducible refine regx_of ?_ ?_); (· decide +kernel); conv => whnf)
          | ((with_reducible refine growx_pre ?_ ?_); (· exact ⟨_, rfl⟩); conv => whnf)
          | ((with_reducible refine needm_of ?_ ?_); (· first | assumption | exact decide_eq_true (by omega) | exact mkOK_of (by decide) | decide +kernel | (refine decide_eq_true ?_; simp (disch := omega) only [i64w]; omega)); conv => whnf)
          | ((with_reducible refine condm_pos ?_ ?_); (· assumption); conv => whnf)
          | ((with_reducible refine condm_neg ?_ ?_); (· assumption); conv => whnf)
          | ((with_reducible refine forceL_fv (by assumption) ?_); conv => whnf)
          | ((with_reducible refine forceL_rfv (by assumption) ?_); conv => whnf)
          | ((with_reducible refine forceNm_of ?_); conv => whnf)
          | ((with_reducible refine needm_of (fv_lenL (by assumption) (by assumption)) ?_); conv => whnf)
          | ((with_reducible refine optm_var (fv_strL (by assumption) (by assumption)) (fun s hs => ?_)); conv => whnf)
          | ((with_reducible refine forceA_of ?_); conv => whnf)
          | ((with_reducible refine forceL_fw (by assumption) ?_); conv => whnf)
          | ((with_reducible refine forceL_rfw (by assumption) ?_); conv => whnf)
          | ((with_reducible refine forceL_fl (by assumption) ?_); conv => whnf)
          | ((with_reducible refine forceL_rfl (by assumption) ?_); conv => whnf)
          | rw [hw]
          | ((with_reducible refine needm_of (by assumption) ?_); conv => whnf)
          | ((refine ⟨_, l0, ?_⟩); conv => whnf)
          | ((refine ⟨_, l1, ?_⟩); conv => whnf)
          | ((refine ⟨_, l2, ?_⟩); conv => whnf)
          | ((refine ⟨_, l3, ?_⟩); conv => whnf)
          | fail)
        refine ⟨len - (i + 1), by omega, Into.weak [0, 1, 8, 3, 4, 10, 6, 7] (F7 (.rslc p len cap) (i + 1)) (H7 (0 + n0) (cap2) (n1) (c1) (n2) (c2) h0 h1 h2 cs3 b1 b2) ⟨i + 1, T0, T1, T2, 0 + n0, cap2, n1, c1, n2, c2, h0, h1, h2, cs3, b1, b2, by omega, rfl, (⟨o0.hs, by rw [Nat.zero_add]; exact q0, (o0.mono (Nat.le_succ i)).le, _, hcs3, by rw [List.length_replicate]; omega⟩), o1.mono (Nat.le_succ i), o2.mono (Nat.le_succ i), rfl, rfl⟩ ⟨rfl, rfl, rfl, rfl, trivial⟩ ⟨rfl, rfl, ren_fl hfl0 _ _ _, ren_fl hfl1 _ _ _, ren_fl hfl2 _ _ _, ren_fv hcs3 _ _ _, ren_fv hb1 _ _ _, ren_fv hb2 _ _ _, trivial⟩ ?_⟩
        simp [nodupb, baseb, Ob.okb, frmOk, V.okb, A.okb, hfl0.all, hfl1.all, hfl2.all, all_fv hcs3, all_fv hb1, all_fv hb2] <;> decide
    · rw [ht]
      conv => whnf
      repeat' (first
        | ((with_reducible refine regx_of ?_ ?_); (· decide +kernel); conv => whnf)
        | ((with_reducible refine growx_pre ?_ ?_); (· exact ⟨_, rfl⟩); conv => whnf)
        | ((with_reducible refine needm_of ?_ ?_); (· first | assumption | exact decide_eq_true (by omega) | exact mkOK_of (by decide) | decide +kernel | (refine decide_eq_true ?_; simp (disch := omega) only [i64w]; omega)); conv => whnf)
        | ((with_reducible refine condm_pos ?_ ?_); (· assumption); conv => whnf)
        | ((with_reducible refine condm_neg ?_ ?_); (· assumption); conv => whnf)
        | ((with_reducible refine forceL_fv (by assumption) ?_); conv => whnf)
        | ((with_reducible refine forceL_rfv (by assumption) ?_); conv => whnf)
        | ((with_reducible refine forceNm_of ?_); conv => whnf)
        | ((with_reducible refine needm_of (fv_lenL (by assumption) (by assumption)) ?_); conv => whnf)
        | ((with_reducible refine optm_var (fv_strL (by assumption) (by assumption)) (fun s hs => ?_)); conv => whnf)
        | ((with_reducible refine forceA_of ?_); conv => whnf)
        | ((with_reducible refine forceL_fw (by assumption) ?_); conv => whnf)
        | ((with_reducible refine forceL_rfw (by assumption) ?_); conv => whnf)
        | ((with_reducible refine forceL_fl (by assumption) ?_); conv => whnf)
        | ((with_reducible refine forceL_rfl (by assumption) ?_); conv => whnf)
        | rw [hw]
        | ((with_reducible refine needm_of (by assumption) ?_); conv => whnf)
        | ((refine ⟨_, l0, ?_⟩); conv => whnf)
        | ((refine ⟨_, l1, ?_⟩); conv => whnf)
        | ((refine ⟨_, l2, ?_⟩); conv => whnf)
        | ((refine ⟨_, l3, ?_⟩); conv => whnf)
        | fail)
      refine Go.Eng.Fn.frame [2] (by rfl) (by exact ⟨ren_fl hfl0 _ _ _, trivial⟩) (by simp [nodupb, V.okb, A.okb, Ob.okb, hfl0.all] <;> decide) (copy34 T0 _ h0 o0.hs ?_)
      conv => whnf
      repeat' (first
        | ((with_reducible refine regx_of ?_ ?_); (· decide +kernel); conv => whnf)
        | ((with_reducible refine growx_pre ?_ ?_); (· exact ⟨_, rfl⟩); conv => whnf)
        | ((with_reducible refine needm_of ?_ ?_); (· first | assumption | exact decide_eq_true (by omega) | exact mkOK_of (by decide) | decide +kernel | (refine decide_eq_true ?_; simp (disch := omega) only [i64w]; omega)); conv => whnf)
        | ((with_reducible refine condm_pos ?_ ?_); (· assumption); conv => whnf)
        | ((with_reducible refine condm_neg ?_ ?_); (· assumption); conv => whnf)
        | ((with_reducible refine forceL_fv (by assumption) ?_); conv => whnf)
        | ((with_reducible refine forceL_rfv (by assumption) ?_); conv => whnf)
        | ((with_reducible refine forceNm_of ?_); conv => whnf)
        | ((with_reducible refine needm_of (fv_lenL (by assumption) (by assumption)) ?_); conv => whnf)
        | ((with_reducible refine optm_var (fv_strL (by assumption) (by assumption)) (fun s hs => ?_)); conv => whnf)
        | ((with_reducible refine forceA_of ?_); conv => whnf)
        | ((with_reducible refine forceL_fw (by assumption) ?_); conv => whnf)
        | ((with_reducible refine forceL_rfw (by assumption) ?_); conv => whnf)
        | ((with_reducible refine forceL_fl (by assumption) ?_); conv => whnf)
        | ((with_reducible refine forceL_rfl (by assumption) ?_); conv => whnf)
        | rw [hw]
        | ((with_reducible refine needm_of (by assumption) ?_); conv => whnf)
        | ((refine ⟨_, l0, ?_⟩); conv => whnf)
        | ((refine ⟨_, l1, ?_⟩); conv => whnf)
        | ((refine ⟨_, l2, ?_⟩); conv => whnf)
        | ((refine ⟨_, l3, ?_⟩); conv => whnf)
        | fail)
      refine needm_of (decide_eq_true (by rw [s5]; omega)) ?_
      rw [row_is hb0 q0 s5]
      conv => whnf
      refine condm_of (fun hc => ?_) (fun hc => ?_)
      · have hc' := of_decide_eq_true hc
        have hT0 : T0 = [] := List.eq_nil_of_length_eq_zero (by omega)
        conv => whnf
        refine needm_of (decide_eq_true (by rw [u8s_length]; simp only [List.length_nil]; omega)) ?_
        conv => whnf
        repeat' (first
          | ((with_reducible refine regx_of ?_ ?_); (· decide +kernel); conv => whnf)
          | ((with_reducible refine growx_pre ?_ ?_); (· exact ⟨_, rfl⟩); conv => whnf)
          | ((with_reducible refine needm_of ?_ ?_); (· first | assumption | exact decide_eq_true (by omega) | exact mkOK_of (by decide) | decide +kernel | (refine decide_eq_true ?_; simp (disch := omega) only [i64w]; omega)); conv => whnf)
          | ((with_reducible refine condm_pos ?_ ?_); (· assumption); conv => whnf)
          | ((with_reducible refine condm_neg ?_ ?_); (· assumption); conv => whnf)
          | ((with_reducible refine forceL_fv (by assumption) ?_); conv => whnf)
          | ((with_reducible refine forceL_rfv (by assumption) ?_); conv => whnf)
          | ((with_reducible refine forceNm_of ?_); conv => whnf)
          | ((with_reducible refine needm_of (fv_lenL (by assumption) (by assumption)) ?_); conv => whnf)
          | ((with_reducible refine optm_var (fv_strL (by assumption) (by assumption)) (fun s hs => ?_)); conv => whnf)
          | ((with_reducible refine forceA_of ?_); conv => whnf)
          | ((with_reducible refine forceL_fw (by assumption) ?_); conv => whnf)
          | ((with_reducible refine forceL_rfw (by assumption) ?_); conv => whnf)
          | ((with_reducible refine forceL_fl (by assumption) ?_); conv => whnf)
          | ((with_reducible refine forceL_rfl (by assumption) ?_); conv => whnf)
          | rw [hw]
          | ((with_reducible refine needm_of (by assumption) ?_); conv => whnf)
          | ((refine ⟨_, l0, ?_⟩); conv => whnf)
          | ((refine ⟨_, l1, ?_⟩); conv => whnf)
          | ((refine ⟨_, l2, ?_⟩); conv => whnf)
          | ((refine ⟨_, l3, ?_⟩); conv => whnf)
          | fail)
        refine forceL_var (l' := u8s (T0 ++ [])) (by rw [hT0]; simp [storeL]) (fun cs3 hcs3 => ?_)
        conv => whnf
        repeat' (first
          | ((with_reducible refine regx_of ?_ ?_); (· decide +kernel); conv => whnf)
          | ((with_reducible refine growx_pre ?_ ?_); (· exact ⟨_, rfl⟩); conv => whnf)
          | ((with_reducible refine needm_of ?_ ?_); (· first | assumption | exact decide_eq_true (by omega) | exact mkOK_of (by decide) | decide +kernel | (refine decide_eq_true ?_; simp (disch := omega) only [i64w]; omega)); conv => whnf)
          | ((with_reducible refine condm_pos ?_ ?_); (· assumption); conv => whnf)
          | ((with_reducible refine condm_neg ?_ ?_); (· assumption); conv => whnf)
          | ((with_reducible refine forceL_fv (by assumption) ?_); conv => whnf)
          | ((with_reducible refine forceL_rfv (by assumption) ?_); conv => whnf)
          | ((with_reducible refine forceNm_of ?_); conv => whnf)
          | ((with_reducible refine needm_of (fv_lenL (by assumption) (by assumption)) ?_); conv => whnf)
          | ((with_reducible refine optm_var (fv_strL (by assumption) (by assumption)) (fun s hs => ?_)); conv => whnf)
          | ((with_reducible refine forceA_of ?_); conv => whnf)
          | ((with_reducible refine forceL_fw (by assumption) ?_); conv => whnf)
          | ((with_reducible refine forceL_rfw (by assumption) ?_); conv => whnf)
          | ((with_reducible refine forceL_fl (by assumption) ?_); conv => whnf)
          | ((with_reducible refine forceL_rfl (by assumption) ?_); conv => whnf)
          | rw [hw]
          | ((with_reducible refine needm_of (by assumption) ?_); conv => whnf)
          | ((refine ⟨_, l0, ?_⟩); conv => whnf)
          | ((refine ⟨_, l1, ?_⟩); conv => whnf)
          | ((refine ⟨_, l2, ?_⟩); conv => whnf)
          | ((refine ⟨_, l3, ?_⟩); conv => whnf)
          | fail)
        refine Go.Eng.Fn.frame [2] (by rfl) (by exact ⟨ren_fl hfl0 _ _ _, trivial⟩) (by simp [nodupb, V.okb, A.okb, Ob.okb, hfl0.all]) (len36n' T0 _ h0 o0.hs ?_)
        conv => whnf
        refine growx_pre ⟨[], by rw [List.append_nil]; exact (plug_onen rfl (ren_fbn hfl0 _ _ _)).symm⟩ ?_
        conv => whnf
        repeat' (first
          | ((with_reducible refine regx_of ?_ ?_); (· decide +kernel); conv => whnf)
          | ((with_reducible refine growx_pre ?_ ?_); (· exact ⟨_, rfl⟩); conv => whnf)
          | ((with_reducible refine needm_of ?_ ?_); (· first | assumption | exact decide_eq_true (by omega) | exact mkOK_of (by decide) | decide +kernel | (refine decide_eq_true ?_; simp (disch := omega) only [i64w]; omega)); conv => whnf)
          | ((with_reducible refine condm_pos ?_ ?_); (· assumption); conv => whnf)
          | ((with_reducible refine condm_neg ?_ ?_); (· assumption); conv => whnf)
          | ((with_reducible refine forceL_fv (by assumption) ?_); conv => whnf)
          | ((with_reducible refine forceL_rfv (by assumption) ?_); conv => whnf)
          | ((with_reducible refine forceNm_of ?_); conv => whnf)
          | ((with_reducible refine needm_of (fv_lenL (by assumption) (by assumption)) ?_); conv => whnf)
          | ((with_reducible refine optm_var (fv_strL (by assumption) (by assumption)) (fun s hs => ?_)); conv => whnf)
          | ((with_reducible refine forceA_of ?_); conv => whnf)
          | ((with_reducible refine forceL_fw (by assumption) ?_); conv => whnf)
          | ((with_reducible refine forceL_rfw (by assumption) ?_); conv => whnf)
          | ((with_reducible refine forceL_fl (by assumption) ?_); conv => whnf)
          | ((with_reducible refine forceL_rfl (by assumption) ?_); conv => whnf)
          | rw [hw]
          | ((with_reducible refine needm_of (by assumption) ?_); conv => whnf)
          | ((refine ⟨_, l0, ?_⟩); conv => whnf)
          | ((refine ⟨_, l1, ?_⟩); conv => whnf)
          | ((refine ⟨_, l2, ?_⟩); conv => whnf)
          | ((refine ⟨_, l3, ?_⟩); conv => whnf)
          | fail)
        refine condm_neg (by rw [u64w, q0]; simp) ?_
        conv => whnf
        repeat' (first
          | ((with_reducible refine regx_of ?_ ?_); (· decide +kernel); conv => whnf)
          | ((with_reducible refine growx_pre ?_ ?_); (· exact ⟨_, rfl⟩); conv => whnf)
          | ((with_reducible refine needm_of ?_ ?_); (· first | assumption | exact decide_eq_true (by omega) | exact mkOK_of (by decide) | decide +kernel | (refine decide_eq_true ?_; simp (disch := omega) only [i64w]; omega)); conv => whnf)
          | ((with_reducible refine condm_pos ?_ ?_); (· assumption); conv => whnf)
          | ((with_reducible refine condm_neg ?_ ?_); (· assumption); conv => whnf)
          | ((with_reducible refine forceL_fv (by assumption) ?_); conv => whnf)
          | ((with_reducible refine forceL_rfv (by assumption) ?_); conv => whnf)
          | ((with_reducible refine forceNm_of ?_); conv => whnf)
          | ((with_reducible refine needm_of (fv_lenL (by assumption) (by assumption)) ?_); conv => whnf)
          | ((with_reducible refine optm_var (fv_strL (by assumption) (by assumption)) (fun s hs => ?_)); conv => whnf)
          | ((with_reducible refine forceA_of ?_); conv => whnf)
          | ((with_reducible refine forceL_fw (by assumption) ?_); conv => whnf)
          | ((with_reducible refine forceL_rfw (by assumption) ?_); conv => whnf)
          | ((with_reducible refine forceL_fl (by assumption) ?_); conv => whnf)
          | ((with_reducible refine forceL_rfl (by assumption) ?_); conv => whnf)
          | rw [hw]
          | ((with_reducible refine needm_of (by assumption) ?_); conv => whnf)
          | ((refine ⟨_, l0, ?_⟩); conv => whnf)
          | ((refine ⟨_, l1, ?_⟩); conv => whnf)
          | ((refine ⟨_, l2, ?_⟩); conv => whnf)
          | ((refine ⟨_, l3, ?_⟩); conv => whnf)
          | fail)
        refine ⟨len - (i + 1), by omega, Into.weak [0, 1, 2, 8, 4, 5, 9, 7] (F7 (.rslc p len cap) (i + 1)) (H7 (n0) (c0) (0 + n0) (0) (n2) (c2) h0 h0 h2 b0 cs3 b2) ⟨i + 1, T0, T0, T2, n0, c0, 0 + n0, 0, n2, c2, h0, h0, h2, b0, cs3, b2, by omega, rfl, o0.mono (Nat.le_succ i), (⟨o0.hs, by rw [Nat.zero_add]; exact q0, (o0.mono (Nat.le_succ i)).le, _, hcs3, by simp only [List.length_nil]; omega⟩), o2.mono (Nat.le_succ i), rfl, rfl⟩ ⟨rfl, rfl, rfl, rfl, trivial⟩ ⟨rfl, rfl, ren_fl hfl0 _ _ _, ren_fl hfl0 _ _ _, ren_fl hfl2 _ _ _, ren_fv hb0 _ _ _, ren_fv hcs3 _ _ _, ren_fv hb2 _ _ _, trivial⟩ ?_⟩
        simp [nodupb, baseb, Ob.okb, frmOk, V.okb, A.okb, hfl0.all, hfl0.all, hfl2.all, all_fv hb0, all_fv hcs3, all_fv hb2] <;> decide
      · have hc' := of_decide_eq_false hc
        conv => whnf
        refine needm_of (decide_eq_true (by rw [s5]; exact ⟨by omega, by show (_ : Nat) * 1 ≤ _; omega, by omega⟩)) ?_
        intro cap2 hcap2
        conv => whnf
        repeat' (first
          | ((with_reducible refine regx_of ?_ ?_); (· decide +kernel); conv => whnf)
          | ((with_reducible refine growx_pre ?_ ?_); (· exact ⟨_, rfl⟩); conv => whnf)
          | ((with_reducible refine needm_of ?_ ?_); (· first | assumption | exact decide_eq_true (by omega) | exact mkOK_of (by decide) | decide +kernel | (refine decide_eq_true ?_; simp (disch := omega) only [i64w]; omega)); conv => whnf)
          | ((with_reducible refine condm_pos ?_ ?_); (· assumption); conv => whnf)
          | ((with_reducible refine condm_neg ?_ ?_); (· assumption); conv => whnf)
          | ((with_reducible refine forceL_fv (by assumption) ?_); conv => whnf)
          | ((with_reducible refine forceL_rfv (by assumption) ?_); conv => whnf)
          | ((with_reducible refine forceNm_of ?_); conv => whnf)
          | ((with_reducible refine needm_of (fv_lenL (by assumption) (by assumption)) ?_); conv => whnf)
          | ((with_reducible refine optm_var (fv_strL (by assumption) (by assumption)) (fun s hs => ?_)); conv => whnf)
          | ((with_reducible refine forceA_of ?_); conv => whnf)
          | ((with_reducible refine forceL_fw (by assumption) ?_); conv => whnf)
          | ((with_reducible refine forceL_rfw (by assumption) ?_); conv => whnf)
          | ((with_reducible refine forceL_fl (by assumption) ?_); conv => whnf)
          | ((with_reducible refine forceL_rfl (by assumption) ?_); conv => whnf)
          | rw [hw]
          | ((with_reducible refine needm_of (by assumption) ?_); conv => whnf)
          | ((refine ⟨_, l0, ?_⟩); conv => whnf)
          | ((refine ⟨_, l1, ?_⟩); conv => whnf)
          | ((refine ⟨_, l2, ?_⟩); conv => whnf)
          | ((refine ⟨_, l3, ?_⟩); conv => whnf)
          | fail)
        refine forceL_var (l' := u8s (T0 ++ List.replicate (cap2 - (0 + n0)) 0)) (by rw [s5]; simp only [Nat.zero_mul, Nat.zero_add, List.take_nil, List.drop_nil, List.nil_append, Nat.mul_one]; rw [repl_u8, ← u8s_append]) (fun cs3 hcs3 => ?_)
        conv => whnf
        repeat' (first
          | ((with_reducible refine regx_of ?_ ?_); (· decide +kernel); conv => whnf)
          | ((with_reducible refine growx_pre ?_ ?_); (· exact ⟨_, rfl⟩); conv => whnf)
          | ((with_reducible refine needm_of ?_ ?_); (· first | assumption | exact decide_eq_true (by omega) | exact mkOK_of (by decide) | decide +kernel | (refine decide_eq_true ?_; simp (disch := omega) only [i64w]; omega)); conv => whnf)
          | ((with_reducible refine condm_pos ?_ ?_); (· assumption); conv => whnf)
          | ((with_reducible refine condm_neg ?_ ?_); (· assumption); conv => whnf)
          | ((with_reducible refine forceL_fv (by assumption) ?_); conv => whnf)
          | ((with_reducible refine forceL_rfv (by assumption) ?_); conv => whnf)
          | ((with_reducible refine forceNm_of ?_); conv => whnf)
          | ((with_reducible refine needm_of (fv_lenL (by assumption) (by assumption)) ?_); conv => whnf)
          | ((with_reducible refine optm_var (fv_strL (by assumption) (by assumption)) (fun s hs => ?_)); conv => whnf)
          | ((with_reducible refine forceA_of ?_); conv => whnf)
          | ((with_reducible refine forceL_fw (by assumption) ?_); conv => whnf)
          | ((with_reducible refine forceL_rfw (by assumption) ?_); conv => whnf)
          | ((with_reducible refine forceL_fl (by assumption) ?_); conv => whnf)
          | ((with_reducible refine forceL_rfl (by assumption) ?_); conv => whnf)
          | rw [hw]
          | ((with_reducible refine needm_of (by assumption) ?_); conv => whnf)
          | ((refine ⟨_, l0, ?_⟩); conv => whnf)
          | ((refine ⟨_, l1, ?_⟩); conv => whnf)
          | ((refine ⟨_, l2, ?_⟩); conv => whnf)
          | ((refine ⟨_, l3, ?_⟩); conv => whnf)
          | fail)
        refine Go.Eng.Fn.frame [2] (by rfl) (by exact ⟨ren_fl hfl0 _ _ _, trivial⟩) (by simp [nodupb, V.okb, A.okb, Ob.okb, hfl0.all]) (len36n' T0 _ h0 o0.hs ?_)
        conv => whnf
        refine growx_pre ⟨[], by rw [List.append_nil]; exact (plug_onen rfl (ren_fbn hfl0 _ _ _)).symm⟩ ?_
        conv => whnf
        repeat' (first
          | ((with_reducible refine regx_of ?_ ?_); (· decide +kernel); conv => whnf)
          | ((with_reducible refine growx_pre ?_ ?_); (· exact ⟨_, rfl⟩); conv => whnf)
          | ((with_reducible refine needm_of ?_ ?_); (· first | assumption | exact decide_eq_true (by omega) | exact mkOK_of (by decide) | decide +kernel | (refine decide_eq_true ?_; simp (disch := omega) only [i64w]; omega)); conv => whnf)
          | ((with_reducible refine condm_pos ?_ ?_); (· assumption); conv => whnf)
          | ((with_reducible refine condm_neg ?_ ?_); (· assumption); conv => whnf)
          | ((with_reducible refine forceL_fv (by assumption) ?_); conv => whnf)
          | ((with_reducible refine forceL_rfv (by assumption) ?_); conv => whnf)
          | ((with_reducible refine forceNm_of ?_); conv => whnf)
          | ((with_reducible refine needm_of (fv_lenL (by assumption) (by assumption)) ?_); conv => whnf)
          | ((with_reducible refine optm_var (fv_strL (by assumption) (by assumption)) (fun s hs => ?_)); conv => whnf)
          | ((with_reducible refine forceA_of ?_); conv => whnf)
          | ((with_reducible refine forceL_fw (by assumption) ?_); conv => whnf)
          | ((with_reducible refine forceL_rfw (by assumption) ?_); conv => whnf)
          | ((with_reducible refine forceL_fl (by assumption) ?_); conv => whnf)
          | ((with_reducible refine forceL_rfl (by assumption) ?_); conv => whnf)
          | rw [hw]
          | ((with_reducible refine needm_of (by assumption) ?_); conv => whnf)
          | ((refine ⟨_, l0, ?_⟩); conv => whnf)
          | ((refine ⟨_, l1, ?_⟩); conv => whnf)
          | ((refine ⟨_, l2, ?_⟩); conv => whnf)
          | ((refine ⟨_, l3, ?_⟩); conv => whnf)
          | fail)
        refine condm_neg (by rw [u64w, q0]; simp) ?_
        conv => whnf
        repeat' (first
          | ((with_reducible refine regx_of ?_ ?_); (· decide +kernel); conv => whnf)
          | ((with_reducible refine growx_pre ?_ ?_); (· exact ⟨_, rfl⟩); conv => whnf)
          | ((with_reducible refine needm_of ?_ ?_); (· first | assumption | exact decide_eq_true (by omega) | exact mkOK_of (by decide) | decide +kernel | (refine decide_eq_true ?_; simp (disch := omega) only [i64w]; omega)); conv => whnf)
          | ((with_reducible refine condm_pos ?_ ?_); (· assumption); conv => whnf)
          | ((with_reducible refine condm_neg ?_ ?_); (· assumption); conv => whnf)
          | ((with_reducible refine forceL_fv (by assumption) ?_); conv => whnf)
          | ((with_reducible refine forceL_rfv (by assumption) ?_); conv => whnf)
          | ((with_reducible refine forceNm_of ?_); conv => whnf)
          | ((with_reducible refine needm_of (fv_lenL (by assumption) (by assumption)) ?_); conv => whnf)
          | ((with_reducible refine optm_var (fv_strL (by assumption) (by assumption)) (fun s hs => ?_)); conv => whnf)
          | ((with_reducible refine forceA_of ?_); conv => whnf)
          | ((with_reducible refine forceL_fw (by assumption) ?_); conv => whnf)
          | ((with_reducible refine forceL_rfw (by assumption) ?_); conv => whnf)
          | ((with_reducible refine forceL_fl (by assumption) ?_); conv => whnf)
          | ((with_reducible refine forceL_rfl (by assumption) ?_); conv => whnf)
          | rw [hw]
          | ((with_reducible refine needm_of (by assumption) ?_); conv => whnf)
          | ((refine ⟨_, l0, ?_⟩); conv => whnf)
          | ((refine ⟨_, l1, ?_⟩); conv => whnf)
          | ((refine ⟨_, l2, ?_⟩); conv => whnf)
          | ((refine ⟨_, l3, ?_⟩); conv => whnf)
          | fail)
        refine ⟨len - (i + 1), by omega, Into.weak [0, 1, 2, 8, 4, 5, 10, 7] (F7 (.rslc p len cap) (i + 1)) (H7 (n0) (c0) (0 + n0) (cap2) (n2) (c2) h0 h0 h2 b0 cs3 b2) ⟨i + 1, T0, T0, T2, n0, c0, 0 + n0, cap2, n2, c2, h0, h0, h2, b0, cs3, b2, by omega, rfl, o0.mono (Nat.le_succ i), (⟨o0.hs, by rw [Nat.zero_add]; exact q0, (o0.mono (Nat.le_succ i)).le, _, hcs3, by rw [List.length_replicate]; omega⟩), o2.mono (Nat.le_succ i), rfl, rfl⟩ ⟨rfl, rfl, rfl, rfl, trivial⟩ ⟨rfl, rfl, ren_fl hfl0 _ _ _, ren_fl hfl0 _ _ _, ren_fl hfl2 _ _ _, ren_fv hb0 _ _ _, ren_fv hcs3 _ _ _, ren_fv hb2 _ _ _, trivial⟩ ?_⟩
        simp [nodupb, baseb, Ob.okb, frmOk, V.okb, A.okb, hfl0.all, hfl0.all, hfl2.all, all_fv hb0, all_fv hcs3, all_fv hb2] <;> decide
    · rw [ht]
      conv => whnf
      repeat' (first
        | ((with_reducible refine regx_of ?_ ?_); (· decide +kernel); conv => whnf)
        | ((with_reducible refine growx_pre ?_ ?_); (· exact ⟨_, rfl⟩); conv => whnf)
        | ((with_reducible refine needm_of ?_ ?_); (· first | assumption | exact decide_eq_true (by omega) | exact mkOK_of (by decide) | decide +kernel | (refine decide_eq_true ?_; simp (disch := omega) only [i64w]; omega)); conv => whnf)
        | ((with_reducible refine condm_pos ?_ ?_); (· assumption); conv => whnf)
        | ((with_reducible refine condm_neg ?_ ?_); (· assumption); conv => whnf)
        | ((with_reducible refine forceL_fv (by assumption) ?_); conv => whnf)
        | ((with_reducible refine forceL_rfv (by assumption) ?_); conv => whnf)
        | ((with_reducible refine forceNm_of ?_); conv => whnf)
        | ((with_reducible refine needm_of (fv_lenL (by assumption) (by assumption)) ?_); conv => whnf)
        | ((with_reducible refine optm_var (fv_strL (by assumption) (by assumption)) (fun s hs => ?_)); conv => whnf)
        | ((with_reducible refine forceA_of ?_); conv => whnf)
        | ((with_reducible refine forceL_fw (by assumption) ?_); conv => whnf)
        | ((with_reducible refine forceL_rfw (by assumption) ?_); conv => whnf)
        | ((with_reducible refine forceL_fl (by assumption) ?_); conv => whnf)
        | ((with_reducible refine forceL_rfl (by assumption) ?_); conv => whnf)
        | rw [hw]
        | ((with_reducible refine needm_of (by assumption) ?_); conv => whnf)
        | ((refine ⟨_, l0, ?_⟩); conv => whnf)
        | ((refine ⟨_, l1, ?_⟩); conv => whnf)
        | ((refine ⟨_, l2, ?_⟩); conv => whnf)
        | ((refine ⟨_, l3, ?_⟩); conv => whnf)
        | fail)
      refine Go.Eng.Fn.frame [2] (by rfl) (by exact ⟨ren_fl hfl0 _ _ _, trivial⟩) (by simp [nodupb, V.okb, A.okb, Ob.okb, hfl0.all] <;> decide) (copy34 T0 _ h0 o0.hs ?_)
      conv => whnf
      repeat' (first
        | ((with_reducible refine regx_of ?_ ?_); (· decide +kernel); conv => whnf)
        | ((with_reducible refine growx_pre ?_ ?_); (· exact ⟨_, rfl⟩); conv => whnf)
        | ((with_reducible refine needm_of ?_ ?_); (· first | assumption | exact decide_eq_true (by omega) | exact mkOK_of (by decide) | decide +kernel | (refine decide_eq_true ?_; simp (disch := omega) only [i64w]; omega)); conv => whnf)
        | ((with_reducible refine condm_pos ?_ ?_); (· assumption); conv => whnf)
        | ((with_reducible refine condm_neg ?_ ?_); (· assumption); conv => whnf)
        | ((with_reducible refine forceL_fv (by assumption) ?_); conv => whnf)
        | ((with_reducible refine forceL_rfv (by assumption) ?_); conv => whnf)
        | ((with_reducible refine forceNm_of ?_); conv => whnf)
        | ((with_reducible refine needm_of (fv_lenL (by assumption) (by assumption)) ?_); conv => whnf)
        | ((with_reducible refine optm_var (fv_strL (by assumption) (by assumption)) (fun s hs => ?_)); conv => whnf)
        | ((with_reducible refine forceA_of ?_); conv => whnf)
        | ((with_reducible refine forceL_fw (by assumption) ?_); conv => whnf)
        | ((with_reducible refine forceL_rfw (by assumption) ?_); conv => whnf)
        | ((with_reducible refine forceL_fl (by assumption) ?_); conv => whnf)
        | ((with_reducible refine forceL_rfl (by assumption) ?_); conv => whnf)
        | rw [hw]
        | ((with_reducible refine needm_of (by assumption) ?_); conv => whnf)
        | ((refine ⟨_, l0, ?_⟩); conv => whnf)
        | ((refine ⟨_, l1, ?_⟩); conv => whnf)
        | ((refine ⟨_, l2, ?_⟩); conv => whnf)
        | ((refine ⟨_, l3, ?_⟩); conv => whnf)
        | fail)
      refine needm_of (decide_eq_true (by rw [s5]; omega)) ?_
      rw [row_is hb0 q0 s5]
      conv => whnf
      refine condm_of (fun hc => ?_) (fun hc => ?_)
      · have hc' := of_decide_eq_true hc
        have hT0 : T0 = [] := List.eq_nil_of_length_eq_zero (by omega)
        conv => whnf
        refine needm_of (decide_eq_true (by rw [u8s_length]; simp only [List.length_nil]; omega)) ?_
        conv => whnf
        repeat' (first
          | ((with_reducible refine regx_of ?_ ?_); (· decide +kernel); conv => whnf)
          | ((with_reducible refine growx_pre ?_ ?_); (· exact ⟨_, rfl⟩); conv => whnf)
          | ((with_reducible refine needm_of ?_ ?_); (· first | assumption | exact decide_eq_true (by omega) | exact mkOK_of (by decide) | decide +kernel | (refine decide_eq_true ?_; simp (disch := omega) only [i64w]; omega)); conv => whnf)
          | ((with_reducible refine condm_pos ?_ ?_); (· assumption); conv => whnf)
          | ((with_reducible refine condm_neg ?_ ?_); (· assumption); conv => whnf)
          | ((with_reducible refine forceL_fv (by assumption) ?_); conv => whnf)
          | ((with_reducible refine forceL_rfv (by assumption) ?_); conv => whnf)
          | ((with_reducible refine forceNm_of ?_); conv => whnf)
          | ((with_reducible refine needm_of (fv_lenL (by assumption) (by assumption)) ?_); conv => whnf)
          | ((with_reducible refine optm_var (fv_strL (by assumption) (by assumption)) (fun s hs => ?_)); conv => whnf)
          | ((with_reducible refine forceA_of ?_); conv => whnf)
          | ((with_reducible refine forceL_fw (by assumption) ?_); conv => whnf)
          | ((with_reducible refine forceL_rfw (by assumption) ?_); conv => whnf)
          | ((with_reducible refine forceL_fl (by assumption) ?_); conv => whnf)
          | ((with_reducible refine forceL_rfl (by assumption) ?_); conv => whnf)
          | rw [hw]
          | ((with_reducible refine needm_of (by assumption) ?_); conv => whnf)
          | ((refine ⟨_, l0, ?_⟩); conv => whnf)
          | ((refine ⟨_, l1, ?_⟩); conv => whnf)
          | ((refine ⟨_, l2, ?_⟩); conv => whnf)
          | ((refine ⟨_, l3, ?_⟩); conv => whnf)
          | fail)
        refine forceL_var (l' := u8s (T0 ++ [])) (by rw [hT0]; simp [storeL]) (fun cs3 hcs3 => ?_)
        conv => whnf
        repeat' (first
          | ((with_reducible refine regx_of ?_ ?_); (· decide +kernel); conv => whnf)
          | ((with_reducible refine growx_pre ?_ ?_); (· exact ⟨_, rfl⟩); conv => whnf)
          | ((with_reducible refine needm_of ?_ ?_); (· first | assumption | exact decide_eq_true (by omega) | exact mkOK_of (by decide) | decide +kernel | (refine decide_eq_true ?_; simp (disch := omega) only [i64w]; omega)); conv => whnf)
          | ((with_reducible refine condm_pos ?_ ?_); (· assumption); conv => whnf)
          | ((with_reducible refine condm_neg ?_ ?_); (· assumption); conv => whnf)
          | ((with_reducible refine forceL_fv (by assumption) ?_); conv => whnf)
          | ((with_reducible refine forceL_rfv (by assumption) ?_); conv => whnf)
          | ((with_reducible refine forceNm_of ?_); conv => whnf)
          | ((with_reducible refine needm_of (fv_lenL (by assumption) (by assumption)) ?_); conv => whnf)
          | ((with_reducible refine optm_var (fv_strL (by assumption) (by assumption)) (fun s hs => ?_)); conv => whnf)
          | ((with_reducible refine forceA_of ?_); conv => whnf)
          | ((with_reducible refine forceL_fw (by assumption) ?_); conv => whnf)
          | ((with_reducible refine forceL_rfw (by assumption) ?_); conv => whnf)
          | ((with_reducible refine forceL_fl (by assumption) ?_); conv => whnf)
          | ((with_reducible refine forceL_rfl (by assumption) ?_); conv => whnf)
          | rw [hw]
          | ((with_reducible refine needm_of (by assumption) ?_); conv => whnf)
          | ((refine ⟨_, l0, ?_⟩); conv => whnf)
          | ((refine ⟨_, l1, ?_⟩); conv => whnf)
          | ((refine ⟨_, l2, ?_⟩); conv => whnf)
          | ((refine ⟨_, l3, ?_⟩); conv => whnf)
          | fail)
        refine Go.Eng.Fn.frame [2] (by rfl) (by exact ⟨ren_fl hfl0 _ _ _, trivial⟩) (by simp [nodupb, V.okb, A.okb, Ob.okb, hfl0.all]) (len36n' T0 _ h0 o0.hs ?_)
        conv => whnf
        refine growx_pre ⟨[], by rw [List.append_nil]; exact (plug_onen rfl (ren_fbn hfl0 _ _ _)).symm⟩ ?_
        conv => whnf
        repeat' (first
          | ((with_reducible refine regx_of ?_ ?_); (· decide +kernel); conv => whnf)
          | ((with_reducible refine growx_pre ?_ ?_); (· exact ⟨_, rfl⟩); conv => whnf)
          | ((with_reducible refine needm_of ?_ ?_); (· first | assumption | exact decide_eq_true (by omega) | exact mkOK_of (by decide) | decide +kernel | (refine decide_eq_true ?_; simp (disch := omega) only [i64w]; omega)); conv => whnf)
          | ((with_reducible refine condm_pos ?_ ?_); (· assumption); conv => whnf)
          | ((with_reducible refine condm_neg ?_ ?_); (· assumption); conv => whnf)
          | ((with_reducible refine forceL_fv (by assumption) ?_); conv => whnf)
          | ((with_reducible refine forceL_rfv (by assumption) ?_); conv => whnf)
          | ((with_reducible refine forceNm_of ?_); conv => whnf)
          | ((with_reducible refine needm_of (fv_lenL (by assumption) (by assumption)) ?_); conv => whnf)
          | ((with_reducible refine optm_var (fv_strL (by assumption) (by assumption)) (fun s hs => ?_)); conv => whnf)
          | ((with_reducible refine forceA_of ?_); conv => whnf)
          | ((with_reducible refine forceL_fw (by assumption) ?_); conv => whnf)
          | ((with_reducible refine forceL_rfw (by assumption) ?_); conv => whnf)
          | ((with_reducible refine forceL_fl (by assumption) ?_); conv => whnf)
          | ((with_reducible refine forceL_rfl (by assumption) ?_); conv => whnf)
          | rw [hw]
          | ((with_reducible refine needm_of (by assumption) ?_); conv => whnf)
          | ((refine ⟨_, l0, ?_⟩); conv => whnf)
          | ((refine ⟨_, l1, ?_⟩); conv => whnf)
          | ((refine ⟨_, l2, ?_⟩); conv => whnf)
          | ((refine ⟨_, l3, ?_⟩); conv => whnf)
          | fail)
        refine condm_neg (by rw [u64w, q0]; simp) ?_
        conv => whnf
        repeat' (first
          | ((with_reducible refine regx_of ?_ ?_); (· decide +kernel); conv => whnf)
          | ((with_reducible refine growx_pre ?_ ?_); (· exact ⟨_, rfl⟩); conv => whnf)
          | ((with_reducible refine needm_of ?_ ?_); (· first | assumption | exact decide_eq_true (by omega) | exact mkOK_of (by decide) | decide +kernel | (refine decide_eq_true ?_; simp (disch := omega) only [i64w]; omega)); conv => whnf)
          | ((with_reducible refine condm_pos ?_ ?_); (· assumption); conv => whnf)
          | ((with_reducible refine condm_neg ?_ ?_); (· assumption); conv => whnf)
          | ((with_reducible refine forceL_fv (by assumption) ?_); conv => whnf)
          | ((with_reducible refine forceL_rfv (by assumption) ?_); conv => whnf)
          | ((with_reducible refine forceNm_of ?_); conv => whnf)
          | ((with_reducible refine needm_of (fv_lenL (by assumption) (by assumption)) ?_); conv => whnf)
          | ((with_reducible refine optm_var (fv_strL (by assumption) (by assumption)) (fun s hs => ?_)); conv => whnf)
          | ((with_reducible refine forceA_of ?_); conv => whnf)
          | ((with_reducible refine forceL_fw (by assumption) ?_); conv => whnf)
          | ((with_reducible refine forceL_rfw (by assumption) ?_); conv => whnf)
          | ((with_reducible refine forceL_fl (by assumption) ?_); conv => whnf)
          | ((with_reducible refine forceL_rfl (by assumption) ?_); conv => whnf)
          | rw [hw]
          | ((with_reducible refine needm_of (by assumption) ?_); conv => whnf)
          | ((refine ⟨_, l0, ?_⟩); conv => whnf)
          | ((refine ⟨_, l1, ?_⟩); conv => whnf)
          | ((refine ⟨_, l2, ?_⟩); conv => whnf)
          | ((refine ⟨_, l3, ?_⟩); conv => whnf)
          | fail)
        refine ⟨len - (i + 1), by omega, Into.weak [0, 1, 2, 3, 8, 5, 6, 9] (F7 (.rslc p len cap) (i + 1)) (H7 (n0) (c0) (n1) (c1) (0 + n0) (0) h0 h1 h0 b0 b1 cs3) ⟨i + 1, T0, T1, T0, n0, c0, n1, c1, 0 + n0, 0, h0, h1, h0, b0, b1, cs3, by omega, rfl, o0.mono (Nat.le_succ i), o1.mono (Nat.le_succ i), (⟨o0.hs, by rw [Nat.zero_add]; exact q0, (o0.mono (Nat.le_succ i)).le, _, hcs3, by simp only [List.length_nil]; omega⟩), rfl, rfl⟩ ⟨rfl, rfl, rfl, rfl, trivial⟩ ⟨rfl, rfl, ren_fl hfl0 _ _ _, ren_fl hfl1 _ _ _, ren_fl hfl0 _ _ _, ren_fv hb0 _ _ _, ren_fv hb1 _ _ _, ren_fv hcs3 _ _ _, trivial⟩ ?_⟩
        simp [nodupb, baseb, Ob.okb, frmOk, V.okb, A.okb, hfl0.all, hfl1.all, hfl0.all, all_fv hb0, all_fv hb1, all_fv hcs3] <;> decide
      · have hc' := of_decide_eq_false hc
        conv => whnf
        refine needm_of (decide_eq_true (by rw [s5]; exact ⟨by omega, by show (_ : Nat) * 1 ≤ _; omega, by omega⟩)) ?_
        intro cap2 hcap2
        conv => whnf
        repeat' (first
          | ((with_reducible refine regx_of ?_ ?_); (· decide +kernel); conv => whnf)
          | ((with_reducible refine growx_pre ?_ ?_); (· exact ⟨_, rfl⟩); conv => whnf)
          | ((with_reducible refine needm_of ?_ ?_); (· first | assumption | exact decide_eq_true (by omega) | exact mkOK_of (by decide) | decide +kernel | (refine decide_eq_true ?_; simp (disch := omega) only [i64w]; omega)); conv => whnf)
          | ((with_reducible refine condm_pos ?_ ?_); (· assumption); conv => whnf)
          | ((with_reducible refine condm_neg ?_ ?_); (· assumption); conv => whnf)
          | ((with_reducible refine forceL_fv (by assumption) ?_); conv => whnf)
          | ((with_reducible refine forceL_rfv (by assumption) ?_); conv => whnf)
          | ((with_reducible refine forceNm_of ?_); conv => whnf)
          | ((with_reducible refine needm_of (fv_lenL (by assumption) (by assumption)) ?_); conv => whnf)
          | ((with_reducible refine optm_var (fv_strL (by assumption) (by assumption)) (fun s hs => ?_)); conv => whnf)
          | ((with_reducible refine forceA_of ?_); conv => whnf)
          | ((with_reducible refine forceL_fw (by assumption) ?_); conv => whnf)
          | ((with_reducible refine forceL_rfw (by assumption) ?_); conv => whnf)
          | ((with_reducible refine forceL_fl (by assumption) ?_); conv => whnf)
          | ((with_reducible refine forceL_rfl (by assumption) ?_); conv => whnf)
          | rw [hw]
          | ((with_reducible refine needm_of (by assumption) ?_); conv => whnf)
          | ((refine ⟨_, l0, ?_⟩); conv => whnf)
          | ((refine ⟨_, l1, ?_⟩); conv => whnf)
          | ((refine ⟨_, l2, ?_⟩); conv => whnf)
          | ((refine ⟨_, l3, ?_⟩); conv => whnf)
          | fail)
        refine forceL_var (l' := u8s (T0 ++ List.replicate (cap2 - (0 + n0)) 0)) (by rw [s5]; simp only [Nat.zero_mul, Nat.zero_add, List.take_nil, List.drop_nil, List.nil_append, Nat.mul_one]; rw [repl_u8, ← u8s_append]) (fun cs3 hcs3 => ?_)
        conv => whnf
        repeat' (first
          | ((with_reducible refine regx_of ?_ ?_); (· decide +kernel); conv => whnf)
          | ((with_reducible refine growx_pre ?_ ?_); (· exact ⟨_, rfl⟩); conv => whnf)
          | ((with_reducible refine needm_of ?_ ?_); (· first | assumption | exact decide_eq_true (by omega) | exact mkOK_of (by decide) | decide +kernel | (refine decide_eq_true ?_; simp (disch := omega) only [i64w]; omega)); conv => whnf)
          | ((with_reducible refine condm_pos ?_ ?_); (· assumption); conv => whnf)
          | ((with_reducible refine condm_neg ?_ ?_); (· assumption); conv => whnf)
          | ((with_reducible refine forceL_fv (by assumption) ?_); conv => whnf)
          | ((with_reducible refine forceL_rfv (by assumption) ?_); conv => whnf)
          | ((with_reducible refine forceNm_of ?_); conv => whnf)
          | ((with_reducible refine needm_of (fv_lenL (by assumption) (by assumption)) ?_); conv => whnf)
          | ((with_reducible refine optm_var (fv_strL (by assumption) (by assumption)) (fun s hs => ?_)); conv => whnf)
          | ((with_reducible refine forceA_of ?_); conv => whnf)
          | ((with_reducible refine forceL_fw (by assumption) ?_); conv => whnf)
          | ((with_reducible refine forceL_rfw (by assumption) ?_); conv => whnf)
          | ((with_reducible refine forceL_fl (by assumption) ?_); conv => whnf)
          | ((with_reducible refine forceL_rfl (by assumption) ?_); conv => whnf)
          | rw [hw]
          | ((with_reducible refine needm_of (by assumption) ?_); conv => whnf)
          | ((refine ⟨_, l0, ?_⟩); conv => whnf)
          | ((refine ⟨_, l1, ?_⟩); conv => whnf)
          | ((refine ⟨_, l2, ?_⟩); conv => whnf)
          | ((refine ⟨_, l3, ?_⟩); conv => whnf)
          | fail)
        refine Go.Eng.Fn.frame [2] (by rfl) (by exact ⟨ren_fl hfl0 _ _ _, trivial⟩) (by simp [nodupb, V.okb, A.okb, Ob.okb, hfl0.all]) (len36n' T0 _ h0 o0.hs ?_)
        conv => whnf
        refine growx_pre ⟨[], by rw [List.append_nil]; exact (plug_onen rfl (ren_fbn hfl0 _ _ _)).symm⟩ ?_
        conv => whnf
        repeat' (first
          | ((with_reducible refine regx_of ?_ ?_); (· decide +kernel); conv => whnf)
          | ((with_reducible refine growx_pre ?_ ?_); (· exact ⟨_, rfl⟩); conv => whnf)
          | ((with_reducible refine needm_of ?_ ?_); (· first | assumption | exact decide_eq_true (by omega) | exact mkOK_of (by decide) | decide +kernel | (refine decide_eq_true ?_; simp (disch := omega) only [i64w]; omega)); conv => whnf)
          | ((with_reducible refine condm_pos ?_ ?_); (· assumption); conv => whnf)
          | ((with_reducible refine condm_neg ?_ ?_); (· assumption); conv => whnf)
          | ((with_reducible refine forceL_fv (by assumption) ?_); conv => whnf)
          | ((with_reducible refine forceL_rfv (by assumption) ?_); conv => whnf)
          | ((with_reducible refine forceNm_of ?_); conv => whnf)
          | ((with_reducible refine needm_of (fv_lenL (by assumption) (by assumption)) ?_); conv => whnf)
          | ((with_reducible refine optm_var (fv_strL (by assumption) (by assumption)) (fun s hs => ?_)); conv => whnf)
          | ((with_reducible refine forceA_of ?_); conv => whnf)
          | ((with_reducible refine forceL_fw (by assumption) ?_); conv => whnf)
          | ((with_reducible refine forceL_rfw (by assumption) ?_); conv => whnf)
          | ((with_reducible refine forceL_fl (by assumption) ?_); conv => whnf)
          | ((with_reducible refine forceL_rfl (by assumption) ?_); conv => whnf)
          | rw [hw]
          | ((with_reducible refine needm_of (by assumption) ?_); conv => whnf)
          | ((refine ⟨_, l0, ?_⟩); conv => whnf)
          | ((refine ⟨_, l1, ?_⟩); conv => whnf)
          | ((refine ⟨_, l2, ?_⟩); conv => whnf)
          | ((refine ⟨_, l3, ?_⟩); conv => whnf)
          | fail)
        refine condm_neg (by rw [u64w, q0]; simp) ?_
        conv => whnf
        repeat' (first
          | ((with_reducible refine regx_of ?_ ?_); (· decide +kernel); conv => whnf)
          | ((with_reducible refine growx_pre ?_ ?_); (· exact ⟨_, rfl⟩); conv => whnf)
          | ((with_reducible refine needm_of ?_ ?_); (· first | assumption | exact decide_eq_true (by omega) | exact mkOK_of (by decide) | decide +kernel | (refine decide_eq_true ?_; simp (disch := omega) only [i64w]; omega)); conv => whnf)
          | ((with_reducible refine condm_pos ?_ ?_); (· assumption); conv => whnf)
          | ((with_reducible refine condm_neg ?_ ?_); (· assumption); conv => whnf)
          | ((with_reducible refine forceL_fv (by assumption) ?_); conv => whnf)
          | ((with_reducible refine forceL_rfv (by assumption) ?_); conv => whnf)
          | ((with_reducible refine forceNm_of ?_); conv => whnf)
          | ((with_reducible refine needm_of (fv_lenL (by assumption) (by assumption)) ?_); conv => whnf)
          | ((with_reducible refine optm_var (fv_strL (by assumption) (by assumption)) (fun s hs => ?_)); conv => whnf)
          | ((with_reducible refine forceA_of ?_); conv => whnf)
          | ((with_reducible refine forceL_fw (by assumption) ?_); conv => whnf)
          | ((with_reducible refine forceL_rfw (by assumption) ?_); conv => whnf)
          | ((with_reducible refine forceL_fl (by assumption) ?_); conv => whnf)
          | ((with_reducible refine forceL_rfl (by assumption) ?_); conv => whnf)
          | rw [hw]
          | ((with_reducible refine needm_of (by assumption) ?_); conv => whnf)
          | ((refine ⟨_, l0, ?_⟩); conv => whnf)
          | ((refine ⟨_, l1, ?_⟩); conv => whnf)
          | ((refine ⟨_, l2, ?_⟩); conv => whnf)
          | ((refine ⟨_, l3, ?_⟩); conv => whnf)
          | fail)
        refine ⟨len - (i + 1), by omega, Into.weak [0, 1, 2, 3, 8, 5, 6, 10] (F7 (.rslc p len cap) (i + 1)) (H7 (n0) (c0) (n1) (c1) (0 + n0) (cap2) h0 h1 h0 b0 b1 cs3) ⟨i + 1, T0, T1, T0, n0, c0, n1, c1, 0 + n0, cap2, h0, h1, h0, b0, b1, cs3, by omega, rfl, o0.mono (Nat.le_succ i), o1.mono (Nat.le_succ i), (⟨o0.hs, by rw [Nat.zero_add]; exact q0, (o0.mono (Nat.le_succ i)).le, _, hcs3, by rw [List.length_replicate]; omega⟩), rfl, rfl⟩ ⟨rfl, rfl, rfl, rfl, trivial⟩ ⟨rfl, rfl, ren_fl hfl0 _ _ _, ren_fl hfl1 _ _ _, ren_fl hfl0 _ _ _, ren_fv hb0 _ _ _, ren_fv hb1 _ _ _, ren_fv hcs3 _ _ _, trivial⟩ ?_⟩
        simp [nodupb, baseb, Ob.okb, frmOk, V.okb, A.okb, hfl0.all, hfl1.all, hfl0.all, all_fv hb0, all_fv hb1, all_fv hcs3] <;> decide
  have e4 : (k == 4) = false := by simpa using k4
  by_cases k5 : k = 5
  · subst k5
    conv => whnf
    repeat' (first
      | ((with_reducible refine regx_of ?_ ?_); (· decide +kernel); conv => whnf)
      | ((with_reducible refine growx_pre ?_ ?_); (· exact ⟨_, rfl⟩); conv => whnf)
      | ((with_reducible refine needm_of ?_ ?_); (· first | assumption | exact decide_eq_true (by omega) | exact mkOK_of (by decide) | decide +kernel | (refine decide_eq_true ?_; simp (disch := omega) only [i64w]; omega)); conv => whnf)
      | ((with_reducible refine condm_pos ?_ ?_); (· assumption); conv => whnf)
      | ((with_reducible refine condm_neg ?_ ?_); (· assumption); conv => whnf)
      | ((with_reducible refine forceL_fv (by assumption) ?_); conv => whnf)
      | ((with_reducible refine forceL_rfv (by assumption) ?_); conv => whnf)
      | ((with_reducible refine forceNm_of ?_); conv => whnf)
      | ((with_reducible refine needm_of (fv_lenL (by assumption) (by assumption)) ?_); conv => whnf)
      | ((with_reducible refine optm_var (fv_strL (by assumption) (by assumption)) (fun s hs => ?_)); conv => whnf)
      | ((with_reducible refine forceA_of ?_); conv => whnf)
      | ((with_reducible refine forceL_fw (by assumption) ?_); conv => whnf)
      | ((with_reducible refine forceL_rfw (by assumption) ?_); conv => whnf)
      | ((with_reducible refine forceL_fl (by assumption) ?_); conv => whnf)
      | ((with_reducible refine forceL_rfl (by assumption) ?_); conv => whnf)
      | rw [hw]
      | ((with_reducible refine needm_of (by assumption) ?_); conv => whnf)
      | ((refine ⟨_, l0, ?_⟩); conv => whnf)
      | ((refine ⟨_, l1, ?_⟩); conv => whnf)
      | ((refine ⟨_, l2, ?_⟩); conv => whnf)
      | ((refine ⟨_, l3, ?_⟩); conv => whnf)
      | fail)
    refine Go.Eng.Fn.frame [2] (by rfl) (by exact ⟨ren_fl hfl0 _ _ _, trivial⟩) (by simp [nodupb, V.okb, A.okb, Ob.okb, hfl0.all] <;> decide) (reset35 T0 _ h0 o0.hs (fun hn' hhn' => ?_))
    have hfln := hhn'.flat
    conv => whnf
    repeat' (first
      | ((with_reducible refine regx_of ?_ ?_); (· decide +kernel); conv => whnf)
      | ((with_reducible refine growx_pre ?_ ?_); (· exact ⟨_, rfl⟩); conv => whnf)
      | ((with_reducible refine needm_of ?_ ?_); (· first | assumption | exact decide_eq_true (by omega) | exact mkOK_of (by decide) | decide +kernel | (refine decide_eq_true ?_; simp (disch := omega) only [i64w]; omega)); conv => whnf)
      | ((with_reducible refine condm_pos ?_ ?_); (· assumption); conv => whnf)
      | ((with_reducible refine condm_neg ?_ ?_); (· assumption); conv => whnf)
      | ((with_reducible refine forceL_fv (by assumption) ?_); conv => whnf)
      | ((with_reducible refine forceL_rfv (by assumption) ?_); conv => whnf)
      | ((with_reducible refine forceNm_of ?_); conv => whnf)
      | ((with_reducible refine needm_of (fv_lenL (by assumption) (by assumption)) ?_); conv => whnf)
      | ((with_reducible refine optm_var (fv_strL (by assumption) (by assumption)) (fun s hs => ?_)); conv => whnf)
      | ((with_reducible refine forceA_of ?_); conv => whnf)
      | ((with_reducible refine forceL_fw (by assumption) ?_); conv => whnf)
      | ((with_reducible refine forceL_rfw (by assumption) ?_); conv => whnf)
      | ((with_reducible refine forceL_fl (by assumption) ?_); conv => whnf)
      | ((with_reducible refine forceL_rfl (by assumption) ?_); conv => whnf)
      | rw [hw]
      | ((with_reducible refine needm_of (by assumption) ?_); conv => whnf)
      | ((refine ⟨_, l0, ?_⟩); conv => whnf)
      | ((refine ⟨_, l1, ?_⟩); conv => whnf)
      | ((refine ⟨_, l2, ?_⟩); conv => whnf)
      | ((refine ⟨_, l3, ?_⟩); conv => whnf)
      | fail)
    refine Go.Eng.Fn.frame [2] (by rfl) (by exact ⟨ren_fl hfln _ _ _, trivial⟩) (by simp [nodupb, V.okb, A.okb, Ob.okb, hfln.all]) (len36n' [] _ hn' hhn' ?_)
    conv => whnf
    refine growx_pre ⟨[], by rw [List.append_nil]; exact (plug_onen rfl (ren_fbn hfln _ _ _)).symm⟩ ?_
    conv => whnf
    repeat' (first
      | ((with_reducible refine regx_of ?_ ?_); (· decide +kernel); conv => whnf)
      | ((with_reducible refine growx_pre ?_ ?_); (· exact ⟨_, rfl⟩); conv => whnf)
      | ((with_reducible refine needm_of ?_ ?_); (· first | assumption | exact decide_eq_true (by omega) | exact mkOK_of (by decide) | decide +kernel | (refine decide_eq_true ?_; simp (disch := omega) only [i64w]; omega)); conv => whnf)
      | ((with_reducible refine condm_pos ?_ ?_); (· assumption); conv => whnf)
      | ((with_reducible refine condm_neg ?_ ?_); (· assumption); conv => whnf)
      | ((with_reducible refine forceL_fv (by assumption) ?_); conv => whnf)
      | ((with_reducible refine forceL_rfv (by assumption) ?_); conv => whnf)
      | ((with_reducible refine forceNm_of ?_); conv => whnf)
      | ((with_reducible refine needm_of (fv_lenL (by assumption) (by assumption)) ?_); conv => whnf)
      | ((with_reducible refine optm_var (fv_strL (by assumption) (by assumption)) (fun s hs => ?_)); conv => whnf)
      | ((with_reducible refine forceA_of ?_); conv => whnf)
      | ((with_reducible refine forceL_fw (by assumption) ?_); conv => whnf)
      | ((with_reducible refine forceL_rfw (by assumption) ?_); conv => whnf)
      | ((with_reducible refine forceL_fl (by assumption) ?_); conv => whnf)
      | ((with_reducible refine forceL_rfl (by assumption) ?_); conv => whnf)
      | rw [hw]
      | ((with_reducible refine needm_of (by assumption) ?_); conv => whnf)
      | ((refine ⟨_, l0, ?_⟩); conv => whnf)
      | ((refine ⟨_, l1, ?_⟩); conv => whnf)
      | ((refine ⟨_, l2, ?_⟩); conv => whnf)
      | ((refine ⟨_, l3, ?_⟩); conv => whnf)
      | fail)
    refine ⟨len - (i + 1), by omega, Into.ghost 8 (F7 (.rslc p len cap) (i + 1)) [.cells [.ptr 2 0, .ptr 3 0, .ptr 4 0] 46 false, .cells [.slc 8 0 0 0, .slc 6 0 n1 c1, .slc 7 0 n2 c2] 47 false, .cells hn' 68 false, .cells h1 68 false, .cells h2 68 false, .cells b0 5 false, .cells b1 5 false, .cells b2 5 false, .cells [] 5 false] rfl ⟨rfl, rfl, rfl, rfl, trivial⟩ ⟨rfl, rfl, ung_pl hfln.ren _ _ _, ung_pl hfl1.ren _ _ _, ung_pl hfl2.ren _ _ _, ung_fv hb0 _ _ _, ung_fv hb1 _ _ _, ung_fv hb2 _ _ _, rfl, trivial⟩ (by simp [Ob.okb, frmOk, V.okb, A.okb, hfl0.all, hfl1.all, hfl2.all, hfln.all, all_fv hb0, all_fv hb1, all_fv hb2]) ?_⟩
    have hnil : ([] : List A) = u8s ([] ++ []) := by simp
    refine Into.weak [0, 1, 2, 3, 4, 8, 6, 7] (F7 (.rslc p len cap) (i + 1)) (H7 0 0 n1 c1 n2 c2 hn' h1 h2 [] b1 b2) ⟨i + 1, [], T1, T2, 0, 0, n1, c1, n2, c2, hn', h1, h2, [], b1, b2, by omega, rfl, (⟨hhn', rfl, Nat.zero_le _, [], hnil, rfl⟩), o1.mono (Nat.le_succ i), o2.mono (Nat.le_succ i), rfl, rfl⟩ ⟨rfl, rfl, rfl, rfl, trivial⟩ ⟨rfl, rfl, ren_fl hfln _ _ _, ren_fl hfl1 _ _ _, ren_fl hfl2 _ _ _, rfl, ren_fv hb1 _ _ _, ren_fv hb2 _ _ _, trivial⟩ ?_
    simp [nodupb, baseb, Ob.okb, frmOk, V.okb, A.okb, hfln.all, hfl1.all, hfl2.all, all_fv hb1, all_fv hb2] <;> decide
  have e5 : (k == 5) = false := by simpa using k5
  conv => whnf
  repeat' (first
    | ((with_reducible refine regx_of ?_ ?_); (· decide +kernel); conv => whnf)
    | ((with_reducible refine growx_pre ?_ ?_); (· exact ⟨_, rfl⟩); conv => whnf)
    | ((with_reducible refine needm_of ?_ ?_); (· first | assumption | exact decide_eq_true (by omega) | exact mkOK_of (by decide) | decide +kernel | (refine decide_eq_true ?_; simp (disch := omega) only [i64w]; omega)); conv => whnf)
    | ((with_reducible refine condm_pos ?_ ?_); (· assumption); conv => whnf)
    | ((with_reducible refine condm_neg ?_ ?_); (· assumption); conv => whnf)
    | ((with_reducible refine forceL_fv (by assumption) ?_); conv => whnf)
    | ((with_reducible refine forceL_rfv (by assumption) ?_); conv => whnf)
    | ((with_reducible refine forceNm_of ?_); conv => whnf)
    | ((with_reducible refine needm_of (fv_lenL (by assumption) (by assumption)) ?_); conv => whnf)
    | ((with_reducible refine optm_var (fv_strL (by assumption) (by assumption)) (fun s hs => ?_)); conv => whnf)
    | ((with_reducible refine forceA_of ?_); conv => whnf)
    | ((with_reducible refine forceL_fw (by assumption) ?_); conv => whnf)
    | ((with_reducible refine forceL_rfw (by assumption) ?_); conv => whnf)
    | ((with_reducible refine forceL_fl (by assumption) ?_); conv => whnf)
    | ((with_reducible refine forceL_rfl (by assumption) ?_); conv => whnf)
    | rw [hw]
    | ((with_reducible refine needm_of (by assumption) ?_); conv => whnf)
    | ((refine ⟨_, l0, ?_⟩); conv => whnf)
    | ((refine ⟨_, l1, ?_⟩); conv => whnf)
    | ((refine ⟨_, l2, ?_⟩); conv => whnf)
    | ((refine ⟨_, l3, ?_⟩); conv => whnf)
    | fail)
  refine Go.Eng.Fn.frame [2] (by rfl) (by exact ⟨ren_fl hfl0 _ _ _, trivial⟩) (by simp [nodupb, V.okb, A.okb, Ob.okb, hfl0.all]) (len36n' T0 _ h0 o0.hs ?_)
  conv => whnf
  refine growx_pre ⟨[], by rw [List.append_nil]; exact (plug_onen rfl (ren_fbn hfl0 _ _ _)).symm⟩ ?_
  conv => whnf
  repeat' (first
    | ((with_reducible refine regx_of ?_ ?_); (· decide +kernel); conv => whnf)
    | ((with_reducible refine growx_pre ?_ ?_); (· exact ⟨_, rfl⟩); conv => whnf)
    | ((with_reducible refine needm_of ?_ ?_); (· first | assumption | exact decide_eq_true (by omega) | exact mkOK_of (by decide) | decide +kernel | (refine decide_eq_true ?_; simp (disch := omega) only [i64w]; omega)); conv => whnf)
    | ((with_reducible refine condm_pos ?_ ?_); (· assumption); conv => whnf)
    | ((with_reducible refine condm_neg ?_ ?_); (· assumption); conv => whnf)
    | ((with_reducible refine forceL_fv (by assumption) ?_); conv => whnf)
    | ((with_reducible refine forceL_rfv (by assumption) ?_); conv => whnf)
    | ((with_reducible refine forceNm_of ?_); conv => whnf)
    | ((with_reducible refine needm_of (fv_lenL (by assumption) (by assumption)) ?_); conv => whnf)
    | ((with_reducible refine optm_var (fv_strL (by assumption) (by assumption)) (fun s hs => ?_)); conv => whnf)
    | ((with_reducible refine forceA_of ?_); conv => whnf)
    | ((with_reducible refine forceL_fw (by assumption) ?_); conv => whnf)
    | ((with_reducible refine forceL_rfw (by assumption) ?_); conv => whnf)
    | ((with_reducible refine forceL_fl (by assumption) ?_); conv => whnf)
    | ((with_reducible refine forceL_rfl (by assumption) ?_); conv => whnf)
    | rw [hw]
    | ((with_reducible refine needm_of (by assumption) ?_); conv => whnf)
    | ((refine ⟨_, l0, ?_⟩); conv => whnf)
    | ((refine ⟨_, l1, ?_⟩); conv => whnf)
    | ((refine ⟨_, l2, ?_⟩); conv => whnf)
    | ((refine ⟨_, l3, ?_⟩); conv => whnf)
    | fail)
  refine condm_neg (by rw [u64w, q0]; simp) ?_
  conv => whnf
  repeat' (first
    | ((with_reducible refine regx_of ?_ ?_); (· decide +kernel); conv => whnf)
    | ((with_reducible refine growx_pre ?_ ?_); (· exact ⟨_, rfl⟩); conv => whnf)
    | ((with_reducible refine needm_of ?_ ?_); (· first | assumption | exact decide_eq_true (by omega) | exact mkOK_of (by decide) | decide +kernel | (refine decide_eq_true ?_; simp (disch := omega) only [i64w]; omega)); conv => whnf)
    | ((with_reducible refine condm_pos ?_ ?_); (· assumption); conv => whnf)
    | ((with_reducible refine condm_neg ?_ ?_); (· assumption); conv => whnf)
    | ((with_reducible refine forceL_fv (by assumption) ?_); conv => whnf)
    | ((with_reducible refine forceL_rfv (by assumption) ?_); conv => whnf)
    | ((with_reducible refine forceNm_of ?_); conv => whnf)
    | ((with_reducible refine needm_of (fv_lenL (by assumption) (by assumption)) ?_); conv => whnf)
    | ((with_reducible refine optm_var (fv_strL (by assumption) (by assumption)) (fun s hs => ?_)); conv => whnf)
    | ((with_reducible refine forceA_of ?_); conv => whnf)
    | ((with_reducible refine forceL_fw (by assumption) ?_); conv => whnf)
    | ((with_reducible refine forceL_rfw (by assumption) ?_); conv => whnf)
    | ((with_reducible refine forceL_fl (by assumption) ?_); conv => whnf)
    | ((with_reducible refine forceL_rfl (by assumption) ?_); conv => whnf)
    | rw [hw]
    | ((with_reducible refine needm_of (by assumption) ?_); conv => whnf)
    | ((refine ⟨_, l0, ?_⟩); conv => whnf)
    | ((refine ⟨_, l1, ?_⟩); conv => whnf)
    | ((refine ⟨_, l2, ?_⟩); conv => whnf)
    | ((refine ⟨_, l3, ?_⟩); conv => whnf)
    | fail)
  refine ⟨len - (i + 1), by omega, Into.weak [0, 1, 2, 3, 4, 5, 6, 7] (F7 (.rslc p len cap) (i + 1)) (H7 (n0) (c0) (n1) (c1) (n2) (c2) h0 h1 h2 b0 b1 b2) ⟨i + 1, T0, T1, T2, n0, c0, n1, c1, n2, c2, h0, h1, h2, b0, b1, b2, by omega, rfl, o0.mono (Nat.le_succ i), o1.mono (Nat.le_succ i), o2.mono (Nat.le_succ i), rfl, rfl⟩ ⟨rfl, rfl, rfl, rfl, trivial⟩ ⟨rfl, rfl, ren_fl hfl0 _ _ _, ren_fl hfl1 _ _ _, ren_fl hfl2 _ _ _, ren_fv hb0 _ _ _, ren_fv hb1 _ _ _, ren_fv hb2 _ _ _, trivial⟩ ?_⟩
  simp [nodupb, baseb, Ob.okb, frmOk, V.okb, A.okb, hfl0.all, hfl1.all, hfl2.all, all_fv hb0, all_fv hb1, all_fv hb2] <;> decide
end
end Go.Proofs.Ytglbldhineggaaa.DG
