import Derived.Test.YtglbldhineggaaaDR
import Derived.Test.YtglbldhineggaaaEngI
namespace Go.Proofs.Ytglbldhineggaaa.DG
open Go.Eng
set_option maxRecDepth 100000
section
variable {ro : Addr → A → Prop}
set_option maxHeartbeats 2000000 in
theorem blocks5 (s : St) (ss : List A) (hss : ss = u32s s.row) (x : A) (L : List UInt8) (hx : Src ro x L) (hn : L.length + 66 ≤ 140737488355328) :
    Go.Eng.Fn Try.prog ro 5 [.g ss, .a x] [] (fun v _ => v = .a (.bool true)) := by
  obtain ⟨z8, hz8⟩ : ∃ zs : List A, zs = [A.int .u32 0, A.int .u32 0, A.int .u32 0, A.int .u32 0, A.int .u32 0, A.int .u32 0, A.int .u32 0, A.int .u32 0] := ⟨_, rfl⟩
  have hy : z8 = u32s (List.replicate 8 0) := by rw [hz8]; unfold u32s; rfl
  have h8l : z8.length = 8 := by rw [fw_len hy]; rfl
  have hsl : ss.length = 8 := by rw [fw_len hss]; rfl
  have hx0 := hx
  rcases hx with ⟨rfl, _⟩ | ⟨p, c, rfl, _⟩
  ·
    refine Go.Eng.Fn.of 0 (gOf []) rfl Try.func5 rfl (Nat.le_of_ble_eq_true rfl) ?_
    conv => whnf
    repeat' (first
      | ((with_reducible refine needm_of ?_ ?_); (· first | (rw [hsl]; rfl) | (rw [h8l]; rfl)); conv => whnf)
      | ((with_reducible refine forceL_to (whole_of ?_) ?_); (· first | (rw [hsl]; rfl) | (rw [h8l]; rfl)); conv => whnf)
      | ((with_reducible refine forceL_to (store_all ?_) ?_); (· first | rfl | (rw [hsl, h8l])); conv => whnf)
      | rw [← hz8]
      | ((with_reducible refine regx_of ?_ ?_); (· decide +kernel); conv => whnf)
      | ((with_reducible refine growx_pre ?_ ?_); (· exact ⟨_, rfl⟩); conv => whnf)
      | ((with_reducible refine needm_of ?_ ?_); (· first | assumption | exact decide_eq_true (by omega) | decide +kernel | (refine decide_eq_true ?_; simp (disch := omega) only [i64w]; omega)); conv => whnf)
      | ((with_reducible refine condm_pos ?_ ?_); (· assumption); conv => whnf)
      | ((with_reducible refine condm_neg ?_ ?_); (· assumption); conv => whnf)
      | ((with_reducible refine forceL_fv (by assumption) ?_); conv => whnf)
      | ((with_reducible refine forceL_rfv (by assumption) ?_); conv => whnf)
      | ((with_reducible refine forceNm_of ?_); conv => whnf)
      | ((with_reducible refine needm_of (fv_lenL (by assumption) (by assumption)) ?_); conv => whnf)
      | ((with_reducible refine optm_var (fv_strL (by assumption) (by assumption)) (fun s hs => ?_)); conv => whnf)
      | ((with_reducible refine forceA_of ?_); conv => whnf)
      | ((with_reducible refine forceL_fw (by assumption) ?_); conv => whnf)
      | ((with_reducible refine forceL_rfw (by assumption) ?_); conv => whnf)
      | ((with_reducible refine forceL_fl (by assumption) ?_); conv => whnf)
      | ((with_reducible refine forceL_rfl (by assumption) ?_); conv => whnf)
      | fail)
    refine Go.Eng.Fn.frame [] (by rfl) (by exact trivial) (by rfl) (lent19 _ L hx0 hn (fun y cs cap hcs hcap => ?_))
    rw [List.append_assoc] at hcs
    conv => whnf
    repeat' (first
      | ((with_reducible refine needm_of ?_ ?_); (· first | (rw [hsl]; rfl) | (rw [h8l]; rfl)); conv => whnf)
      | ((with_reducible refine forceL_to (whole_of ?_) ?_); (· first | (rw [hsl]; rfl) | (rw [h8l]; rfl)); conv => whnf)
      | ((with_reducible refine forceL_to (store_all ?_) ?_); (· first | rfl | (rw [hsl, h8l])); conv => whnf)
      | rw [← hz8]
      | ((with_reducible refine regx_of ?_ ?_); (· decide +kernel); conv => whnf)
      | ((with_reducible refine growx_pre ?_ ?_); (· exact ⟨_, rfl⟩); conv => whnf)
      | ((with_reducible refine needm_of ?_ ?_); (· first | assumption | exact decide_eq_true (by omega) | decide +kernel | (refine decide_eq_true ?_; simp (disch := omega) only [i64w]; omega)); conv => whnf)
      | ((with_reducible refine condm_pos ?_ ?_); (· assumption); conv => whnf)
      | ((with_reducible refine condm_neg ?_ ?_); (· assumption); conv => whnf)
      | ((with_reducible refine forceL_fv (by assumption) ?_); conv => whnf)
      | ((with_reducible refine forceL_rfv (by assumption) ?_); conv => whnf)
      | ((with_reducible refine forceNm_of ?_); conv => whnf)
      | ((with_reducible refine needm_of (fv_lenL (by assumption) (by assumption)) ?_); conv => whnf)
      | ((with_reducible refine optm_var (fv_strL (by assumption) (by assumption)) (fun s hs => ?_)); conv => whnf)
      | ((with_reducible refine forceA_of ?_); conv => whnf)
      | ((with_reducible refine forceL_fw (by assumption) ?_); conv => whnf)
      | ((with_reducible refine forceL_rfw (by assumption) ?_); conv => whnf)
      | ((with_reducible refine forceL_fl (by assumption) ?_); conv => whnf)
      | ((with_reducible refine forceL_rfl (by assumption) ?_); conv => whnf)
      | fail)
    generalize hn' : L.length = n at *
    refine loopx_of (fun m F H => ∃ (t : Nat) (L : List UInt8) (cs : List A), t ≤ 2 ∧ m = 2 - t ∧ L.length = n ∧ cs = u8s (L ++ (marks 66 ++ y)) ∧ F = [(2, .a (.ptr 0 0)), (5, .a (.slc 1 0 n cap)), (6, .a (.int .i64 t))] ∧ H = [.cells ss 33 false, .cells cs 5 false]) 2 ?_ ?_
    · refine Into.weak [0, 1] _ _ ⟨0, L, cs, by omega, rfl, hn', hcs, rfl, rfl⟩ ⟨rfl, rfl, rfl, trivial⟩ ⟨ren_fw hss _ _ _, ren_fv hcs _ _ _, trivial⟩ ?_
      simp [nodupb, baseb, Ob.okb, frmOk, V.okb, A.okb, all_fv hcs, all_fw hss] <;> decide
    · clear hcs hn' hx0
      rintro m F H ⟨t, L, cs, ht, rfl, hL, hcs, rfl, rfl⟩
      conv => whnf
      refine condm_of (fun h => ?_) (fun h => ?_)
      · have ht2 : t < 2 := by have := of_decide_eq_true h; omega
        have e4 : IntKind.i64.wrap (↑t + 1) = ((t + 1 : Nat) : Int) := by rw [i64w (by omega) (by omega)]; rfl
        have hcl : cs.length = n + 66 + y.length := by rw [u8s_len hcs, List.length_append, List.length_append, marks_length, hL]; omega
        conv => whnf
        repeat' (first
          | ((with_reducible refine needm_of ?_ ?_); (· first | (rw [hsl]; rfl) | (rw [h8l]; rfl)); conv => whnf)
          | ((with_reducible refine forceL_to (whole_of ?_) ?_); (· first | (rw [hsl]; rfl) | (rw [h8l]; rfl)); conv => whnf)
          | ((with_reducible refine forceL_to (store_all ?_) ?_); (· first | rfl | (rw [hsl, h8l])); conv => whnf)
          | rw [← hz8]
          | ((with_reducible refine regx_of ?_ ?_); (· decide +kernel); conv => whnf)
          | ((with_reducible refine growx_pre ?_ ?_); (· exact ⟨_, rfl⟩); conv => whnf)
          | ((with_reducible refine needm_of ?_ ?_); (· first | assumption | exact decide_eq_true (by omega) | decide +kernel | (refine decide_eq_true ?_; simp (disch := omega) only [i64w]; omega)); conv => whnf)
          | ((with_reducible refine condm_pos ?_ ?_); (· assumption); conv => whnf)
          | ((with_reducible refine condm_neg ?_ ?_); (· assumption); conv => whnf)
          | ((with_reducible refine forceL_fv (by assumption) ?_); conv => whnf)
          | ((with_reducible refine forceL_rfv (by assumption) ?_); conv => whnf)
          | ((with_reducible refine forceNm_of ?_); conv => whnf)
          | ((with_reducible refine needm_of (fv_lenL (by assumption) (by assumption)) ?_); conv => whnf)
          | ((with_reducible refine optm_var (fv_strL (by assumption) (by assumption)) (fun s hs => ?_)); conv => whnf)
          | ((with_reducible refine forceA_of ?_); conv => whnf)
          | ((with_reducible refine forceL_fw (by assumption) ?_); conv => whnf)
          | ((with_reducible refine forceL_rfw (by assumption) ?_); conv => whnf)
          | ((with_reducible refine forceL_fl (by assumption) ?_); conv => whnf)
          | ((with_reducible refine forceL_rfl (by assumption) ?_); conv => whnf)
          | fail)
        refine needm_of (decide_eq_true (by rw [s5]; omega)) ?_
        conv => whnf
        have hnew : List.drop 0 (List.take (0 + n * Try.prog.types[5].size) cs) = u8s L := by
          rw [s5, hcs, List.drop_zero, u8s_take, List.take_append_of_le_length (by omega), List.take_of_length_le (by omega)]
        rw [hnew]
        refine condm_of (fun hc => ?_) (fun hc => ?_)
        · have hc' := of_decide_eq_true hc
          have hL0 : L = [] := List.length_eq_zero_iff.1 (by omega)
          conv => whnf
          refine needm_of (by rw [u8s_length, hL0]; rfl) ?_
          conv => whnf
          repeat' (first
            | ((with_reducible refine needm_of ?_ ?_); (· first | (rw [hsl]; rfl) | (rw [h8l]; rfl)); conv => whnf)
            | ((with_reducible refine forceL_to (whole_of ?_) ?_); (· first | (rw [hsl]; rfl) | (rw [h8l]; rfl)); conv => whnf)
            | ((with_reducible refine forceL_to (store_all ?_) ?_); (· first | rfl | (rw [hsl, h8l])); conv => whnf)
            | rw [← hz8]
            | ((with_reducible refine regx_of ?_ ?_); (· decide +kernel); conv => whnf)
            | ((with_reducible refine growx_pre ?_ ?_); (· exact ⟨_, rfl⟩); conv => whnf)
            | ((with_reducible refine needm_of ?_ ?_); (· first | assumption | exact decide_eq_true (by omega) | decide +kernel | (refine decide_eq_true ?_; simp (disch := omega) only [i64w]; omega)); conv => whnf)
            | ((with_reducible refine condm_pos ?_ ?_); (· assumption); conv => whnf)
            | ((with_reducible refine condm_neg ?_ ?_); (· assumption); conv => whnf)
            | ((with_reducible refine forceL_fv (by assumption) ?_); conv => whnf)
            | ((with_reducible refine forceL_rfv (by assumption) ?_); conv => whnf)
            | ((with_reducible refine forceNm_of ?_); conv => whnf)
            | ((with_reducible refine needm_of (fv_lenL (by assumption) (by assumption)) ?_); conv => whnf)
            | ((with_reducible refine optm_var (fv_strL (by assumption) (by assumption)) (fun s hs => ?_)); conv => whnf)
            | ((with_reducible refine forceA_of ?_); conv => whnf)
            | ((with_reducible refine forceL_fw (by assumption) ?_); conv => whnf)
            | ((with_reducible refine forceL_rfw (by assumption) ?_); conv => whnf)
            | ((with_reducible refine forceL_fl (by assumption) ?_); conv => whnf)
            | ((with_reducible refine forceL_rfl (by assumption) ?_); conv => whnf)
            | fail)
          refine forceL_var (l := storeL [] (0 + 0 * Try.prog.types[5].size) (u8s L)) (l' := u8s (L ++ [])) (by rw [hL0]; simp [storeL]) (fun csn hcsn => ?_)
          conv => whnf
          repeat' (first
            | ((with_reducible refine needm_of ?_ ?_); (· first | (rw [hsl]; rfl) | (rw [h8l]; rfl)); conv => whnf)
            | ((with_reducible refine forceL_to (whole_of ?_) ?_); (· first | (rw [hsl]; rfl) | (rw [h8l]; rfl)); conv => whnf)
            | ((with_reducible refine forceL_to (store_all ?_) ?_); (· first | rfl | (rw [hsl, h8l])); conv => whnf)
            | rw [← hz8]
            | ((with_reducible refine regx_of ?_ ?_); (· decide +kernel); conv => whnf)
            | ((with_reducible refine growx_pre ?_ ?_); (· exact ⟨_, rfl⟩); conv => whnf)
            | ((with_reducible refine needm_of ?_ ?_); (· first | assumption | exact decide_eq_true (by omega) | decide +kernel | (refine decide_eq_true ?_; simp (disch := omega) only [i64w]; omega)); conv => whnf)
            | ((with_reducible refine condm_pos ?_ ?_); (· assumption); conv => whnf)
            | ((with_reducible refine condm_neg ?_ ?_); (· assumption); conv => whnf)
            | ((with_reducible refine forceL_fv (by assumption) ?_); conv => whnf)
            | ((with_reducible refine forceL_rfv (by assumption) ?_); conv => whnf)
            | ((with_reducible refine forceNm_of ?_); conv => whnf)
            | ((with_reducible refine needm_of (fv_lenL (by assumption) (by assumption)) ?_); conv => whnf)
            | ((with_reducible refine optm_var (fv_strL (by assumption) (by assumption)) (fun s hs => ?_)); conv => whnf)
            | ((with_reducible refine forceA_of ?_); conv => whnf)
            | ((with_reducible refine forceL_fw (by assumption) ?_); conv => whnf)
            | ((with_reducible refine forceL_rfw (by assumption) ?_); conv => whnf)
            | ((with_reducible refine forceL_fl (by assumption) ?_); conv => whnf)
            | ((with_reducible refine forceL_rfl (by assumption) ?_); conv => whnf)
            | fail)
          rw [Nat.zero_add n]
          refine Go.Eng.Fn.frame [2] (by simp [V.ren, (Flat.u32 hss).ren, A.ren, dsOf]) (by exact ⟨ren_fv hcsn _ _ _, trivial⟩) (by simp [nodupb, V.okb, A.okb, Ob.okb, all_fv hcsn, (Flat.u32 hss).all]) (block20 s ss hss csn L [] n 0 hcsn hL.symm (fun rs e hrs he => ?_))
          have hrl : rs.length = 8 := by rw [fw_len hrs]; unfold blkRow; split <;> rfl
          conv => whnf
          repeat' (first
            | ((with_reducible refine needm_of ?_ ?_); (· first | (rw [hrl]; rfl) | (rw [hrl, h8l]; rfl)); conv => whnf)
            | ((with_reducible refine forceL_to (whole_of ?_) ?_); (· (rw [hrl]; rfl)); conv => whnf)
            | ((with_reducible refine forceL_to (store_all ?_) ?_); (· (rw [hrl, h8l])); conv => whnf)
            | ((with_reducible refine needm_of ?_ ?_); (· first | (rw [hsl]; rfl) | (rw [h8l]; rfl)); conv => whnf)
            | ((with_reducible refine forceL_to (whole_of ?_) ?_); (· first | (rw [hsl]; rfl) | (rw [h8l]; rfl)); conv => whnf)
            | ((with_reducible refine forceL_to (store_all ?_) ?_); (· first | rfl | (rw [hsl, h8l])); conv => whnf)
            | rw [← hz8]
            | ((with_reducible refine regx_of ?_ ?_); (· decide +kernel); conv => whnf)
            | ((with_reducible refine growx_pre ?_ ?_); (· exact ⟨_, rfl⟩); conv => whnf)
            | ((with_reducible refine needm_of ?_ ?_); (· first | assumption | exact decide_eq_true (by omega) | decide +kernel | (refine decide_eq_true ?_; simp (disch := omega) only [i64w]; omega)); conv => whnf)
            | ((with_reducible refine condm_pos ?_ ?_); (· assumption); conv => whnf)
            | ((with_reducible refine condm_neg ?_ ?_); (· assumption); conv => whnf)
            | ((with_reducible refine forceL_fv (by assumption) ?_); conv => whnf)
            | ((with_reducible refine forceL_rfv (by assumption) ?_); conv => whnf)
            | ((with_reducible refine forceNm_of ?_); conv => whnf)
            | ((with_reducible refine needm_of (fv_lenL (by assumption) (by assumption)) ?_); conv => whnf)
            | ((with_reducible refine optm_var (fv_strL (by assumption) (by assumption)) (fun s hs => ?_)); conv => whnf)
            | ((with_reducible refine forceA_of ?_); conv => whnf)
            | ((with_reducible refine forceL_fw (by assumption) ?_); conv => whnf)
            | ((with_reducible refine forceL_rfw (by assumption) ?_); conv => whnf)
            | ((with_reducible refine forceL_fl (by assumption) ?_); conv => whnf)
            | ((with_reducible refine forceL_rfl (by assumption) ?_); conv => whnf)
            | fail)
          refine Go.Eng.Fn.frame [1] (by simp [V.ren, (Flat.u32 hss).ren, A.ren, dsOf]) (by exact ⟨ren_fv hcs _ _ _, trivial⟩) (by simp [nodupb, V.okb, A.okb, Ob.okb, all_fv hcs, (Flat.u32 hss).all]) (block21 s ss hss cs L (marks 66 ++ y) n cap hcs hL.symm (fun rs2 e2 hrs2 he2 => ?_))
          obtain rfl : rs2 = rs := hrs2.trans hrs.symm
          obtain rfl : e2 = e := he2.trans he.symm
          conv => whnf
          repeat' (first
            | ((with_reducible refine needm_of ?_ ?_); (· first | (rw [hrl]; rfl) | (rw [hrl, h8l]; rfl)); conv => whnf)
            | ((with_reducible refine forceL_to (whole_of ?_) ?_); (· (rw [hrl]; rfl)); conv => whnf)
            | ((with_reducible refine forceL_to (store_all ?_) ?_); (· (rw [hrl, h8l])); conv => whnf)
            | ((with_reducible refine needm_of ?_ ?_); (· first | (rw [hsl]; rfl) | (rw [h8l]; rfl)); conv => whnf)
            | ((with_reducible refine forceL_to (whole_of ?_) ?_); (· first | (rw [hsl]; rfl) | (rw [h8l]; rfl)); conv => whnf)
            | ((with_reducible refine forceL_to (store_all ?_) ?_); (· first | rfl | (rw [hsl, h8l])); conv => whnf)
            | rw [← hz8]
            | ((with_reducible refine regx_of ?_ ?_); (· decide +kernel); conv => whnf)
            | ((with_reducible refine growx_pre ?_ ?_); (· exact ⟨_, rfl⟩); conv => whnf)
            | ((with_reducible refine needm_of ?_ ?_); (· first | assumption | exact decide_eq_true (by omega) | decide +kernel | (refine decide_eq_true ?_; simp (disch := omega) only [i64w]; omega)); conv => whnf)
            | ((with_reducible refine condm_pos ?_ ?_); (· assumption); conv => whnf)
            | ((with_reducible refine condm_neg ?_ ?_); (· assumption); conv => whnf)
            | ((with_reducible refine forceL_fv (by assumption) ?_); conv => whnf)
            | ((with_reducible refine forceL_rfv (by assumption) ?_); conv => whnf)
            | ((with_reducible refine forceNm_of ?_); conv => whnf)
            | ((with_reducible refine needm_of (fv_lenL (by assumption) (by assumption)) ?_); conv => whnf)
            | ((with_reducible refine optm_var (fv_strL (by assumption) (by assumption)) (fun s hs => ?_)); conv => whnf)
            | ((with_reducible refine forceA_of ?_); conv => whnf)
            | ((with_reducible refine forceL_fw (by assumption) ?_); conv => whnf)
            | ((with_reducible refine forceL_rfw (by assumption) ?_); conv => whnf)
            | ((with_reducible refine forceL_fl (by assumption) ?_); conv => whnf)
            | ((with_reducible refine forceL_rfl (by assumption) ?_); conv => whnf)
            | (refine ⟨_, same33 hrs (by unfold blkRow; split <;> rfl), ?_⟩; conv => whnf)
            | ((with_reducible refine condm_neg ?_ ?_); (· simp); conv => whnf)
            | fail)
          refine Go.Eng.Fn.frame [1, 2] (by rfl) (by exact ⟨ren_fv hcs _ _ _, ren_fv hcsn _ _ _, trivial⟩) (by simp [nodupb, V.okb, A.okb, Ob.okb, all_fv hcs, all_fv hcsn] <;> decide) (kept22 L y [] cs csn n cap 0 hcs hcsn hL.symm hcap hn ?_)
          conv => whnf
          repeat' (first
            | ((with_reducible refine needm_of ?_ ?_); (· first | (rw [hrl]; rfl) | (rw [hrl, h8l]; rfl)); conv => whnf)
            | ((with_reducible refine forceL_to (whole_of ?_) ?_); (· (rw [hrl]; rfl)); conv => whnf)
            | ((with_reducible refine forceL_to (store_all ?_) ?_); (· (rw [hrl, h8l])); conv => whnf)
            | ((with_reducible refine needm_of ?_ ?_); (· first | (rw [hsl]; rfl) | (rw [h8l]; rfl)); conv => whnf)
            | ((with_reducible refine forceL_to (whole_of ?_) ?_); (· first | (rw [hsl]; rfl) | (rw [h8l]; rfl)); conv => whnf)
            | ((with_reducible refine forceL_to (store_all ?_) ?_); (· first | rfl | (rw [hsl, h8l])); conv => whnf)
            | rw [← hz8]
            | ((with_reducible refine regx_of ?_ ?_); (· decide +kernel); conv => whnf)
            | ((with_reducible refine growx_pre ?_ ?_); (· exact ⟨_, rfl⟩); conv => whnf)
            | ((with_reducible refine needm_of ?_ ?_); (· first | assumption | exact decide_eq_true (by omega) | decide +kernel | (refine decide_eq_true ?_; simp (disch := omega) only [i64w]; omega)); conv => whnf)
            | ((with_reducible refine condm_pos ?_ ?_); (· assumption); conv => whnf)
            | ((with_reducible refine condm_neg ?_ ?_); (· assumption); conv => whnf)
            | ((with_reducible refine forceL_fv (by assumption) ?_); conv => whnf)
            | ((with_reducible refine forceL_rfv (by assumption) ?_); conv => whnf)
            | ((with_reducible refine forceNm_of ?_); conv => whnf)
            | ((with_reducible refine needm_of (fv_lenL (by assumption) (by assumption)) ?_); conv => whnf)
            | ((with_reducible refine optm_var (fv_strL (by assumption) (by assumption)) (fun s hs => ?_)); conv => whnf)
            | ((with_reducible refine forceA_of ?_); conv => whnf)
            | ((with_reducible refine forceL_fw (by assumption) ?_); conv => whnf)
            | ((with_reducible refine forceL_rfw (by assumption) ?_); conv => whnf)
            | ((with_reducible refine forceL_fl (by assumption) ?_); conv => whnf)
            | ((with_reducible refine forceL_rfl (by assumption) ?_); conv => whnf)
            | ((with_reducible refine condm_neg ?_ ?_); (· simp); conv => whnf)
            | fail)
          refine loopx_of (fun m F H => ∃ (i : Nat) (L : List UInt8) (cs : List A), i ≤ n ∧ m = n - i ∧ L.length = n ∧ cs = u8s (L ++ (marks 66 ++ y)) ∧ F = [(2, .a (.ptr 0 0)), (5, .a (.slc 1 0 n cap)), (6, .a (.int .i64 t)), (12, .a (.int .i64 i))] ∧ H = [.cells ss 33 false, .cells cs 5 false]) n ?_ ?_
          · refine Into.weak [0, 1] _ _ ⟨0, L, cs, by omega, rfl, hL, hcs, rfl, rfl⟩ ⟨rfl, rfl, rfl, rfl, trivial⟩ ⟨ren_fw hss _ _ _, ren_fv hcs _ _ _, trivial⟩ ?_
            simp [nodupb, baseb, Ob.okb, frmOk, V.okb, A.okb, all_fv hcs, all_fw hss] <;> decide
          · clear hcs hL L cs hcsn hrs he hcl hnew hrs2 he2 hL0
            rintro m F H ⟨i, L, cs, hi, rfl, hL, hcs, rfl, rfl⟩
            conv => whnf
            refine condm_of (fun h => ?_) (fun h => ?_)
            · have hin : i < n := by have := of_decide_eq_true h; omega
              omega
            · conv => whnf
              refine ⟨2 - (t + 1), by omega, Into.weak [0, 1] _ _ ⟨t + 1, L, cs, by omega, rfl, hL, hcs, rfl, rfl⟩ ⟨rfl, rfl, congrArg (fun z => some (V.a (.int .i64 z))) e4, trivial⟩ ⟨ren_fw hss _ _ _, ren_fv hcs _ _ _, trivial⟩ ?_⟩
              simp [nodupb, baseb, Ob.okb, frmOk, V.okb, A.okb, all_fv hcs, all_fw hss] <;> decide
        · have hc' := of_decide_eq_false hc
          refine needm_of (decide_eq_true (by rw [s5]; exact ⟨by simp, by show (_ : Nat) * 1 ≤ _; omega, by omega⟩)) ?_
          intro capn hcapn
          obtain ⟨nl, hnl⟩ : ∃ l : List A, l = [] := ⟨_, rfl⟩
          have hnu : nl = u8s [] := by rw [hnl]; simp
          rw [← hnl]
          conv => whnf
          repeat' (first
            | ((with_reducible refine needm_of ?_ ?_); (· first | (rw [hsl]; rfl) | (rw [h8l]; rfl)); conv => whnf)
            | ((with_reducible refine forceL_to (whole_of ?_) ?_); (· first | (rw [hsl]; rfl) | (rw [h8l]; rfl)); conv => whnf)
            | ((with_reducible refine forceL_to (store_all ?_) ?_); (· first | rfl | (rw [hsl, h8l])); conv => whnf)
            | rw [← hz8]
            | ((with_reducible refine regx_of ?_ ?_); (· decide +kernel); conv => whnf)
            | ((with_reducible refine growx_pre ?_ ?_); (· exact ⟨_, rfl⟩); conv => whnf)
            | ((with_reducible refine needm_of ?_ ?_); (· first | assumption | exact decide_eq_true (by omega) | decide +kernel | (refine decide_eq_true ?_; simp (disch := omega) only [i64w]; omega)); conv => whnf)
            | ((with_reducible refine condm_pos ?_ ?_); (· assumption); conv => whnf)
            | ((with_reducible refine condm_neg ?_ ?_); (· assumption); conv => whnf)
            | ((with_reducible refine forceL_fv (by assumption) ?_); conv => whnf)
            | ((with_reducible refine forceL_rfv (by assumption) ?_); conv => whnf)
            | ((with_reducible refine forceNm_of ?_); conv => whnf)
            | ((with_reducible refine needm_of (fv_lenL (by assumption) (by assumption)) ?_); conv => whnf)
            | ((with_reducible refine optm_var (fv_strL (by assumption) (by assumption)) (fun s hs => ?_)); conv => whnf)
            | ((with_reducible refine forceA_of ?_); conv => whnf)
            | ((with_reducible refine forceL_fw (by assumption) ?_); conv => whnf)
            | ((with_reducible refine forceL_rfw (by assumption) ?_); conv => whnf)
            | ((with_reducible refine forceL_fl (by assumption) ?_); conv => whnf)
            | ((with_reducible refine forceL_rfl (by assumption) ?_); conv => whnf)
            | fail)
          refine forceL_var (l' := u8s (L ++ List.replicate (capn - n) 0)) (by rw [s5, hnl]; simp [repl_u8]) (fun csn hcsn => ?_)
          conv => whnf
          repeat' (first
            | ((with_reducible refine needm_of ?_ ?_); (· first | (rw [hsl]; rfl) | (rw [h8l]; rfl)); conv => whnf)
            | ((with_reducible refine forceL_to (whole_of ?_) ?_); (· first | (rw [hsl]; rfl) | (rw [h8l]; rfl)); conv => whnf)
            | ((with_reducible refine forceL_to (store_all ?_) ?_); (· first | rfl | (rw [hsl, h8l])); conv => whnf)
            | rw [← hz8]
            | ((with_reducible refine regx_of ?_ ?_); (· decide +kernel); conv => whnf)
            | ((with_reducible refine growx_pre ?_ ?_); (· exact ⟨_, rfl⟩); conv => whnf)
            | ((with_reducible refine needm_of ?_ ?_); (· first | assumption | exact decide_eq_true (by omega) | decide +kernel | (refine decide_eq_true ?_; simp (disch := omega) only [i64w]; omega)); conv => whnf)
            | ((with_reducible refine condm_pos ?_ ?_); (· assumption); conv => whnf)
            | ((with_reducible refine condm_neg ?_ ?_); (· assumption); conv => whnf)
            | ((with_reducible refine forceL_fv (by assumption) ?_); conv => whnf)
            | ((with_reducible refine forceL_rfv (by assumption) ?_); conv => whnf)
            | ((with_reducible refine forceNm_of ?_); conv => whnf)
            | ((with_reducible refine needm_of (fv_lenL (by assumption) (by assumption)) ?_); conv => whnf)
            | ((with_reducible refine optm_var (fv_strL (by assumption) (by assumption)) (fun s hs => ?_)); conv => whnf)
            | ((with_reducible refine forceA_of ?_); conv => whnf)
            | ((with_reducible refine forceL_fw (by assumption) ?_); conv => whnf)
            | ((with_reducible refine forceL_rfw (by assumption) ?_); conv => whnf)
            | ((with_reducible refine forceL_fl (by assumption) ?_); conv => whnf)
            | ((with_reducible refine forceL_rfl (by assumption) ?_); conv => whnf)
            | fail)
          rw [Nat.zero_add n]
          refine Go.Eng.Fn.frame [3] (by simp [V.ren, (Flat.u32 hss).ren, A.ren, dsOf]) (by exact ⟨ren_fv hcsn _ _ _, trivial⟩) (by simp [nodupb, V.okb, A.okb, Ob.okb, all_fv hcsn, (Flat.u32 hss).all]) (block20 s ss hss csn L (List.replicate (capn - n) 0) n capn hcsn hL.symm (fun rs e hrs he => ?_))
          have hrl : rs.length = 8 := by rw [fw_len hrs]; unfold blkRow; split <;> rfl
          conv => whnf
          repeat' (first
            | ((with_reducible refine needm_of ?_ ?_); (· first | (rw [hrl]; rfl) | (rw [hrl, h8l]; rfl)); conv => whnf)
            | ((with_reducible refine forceL_to (whole_of ?_) ?_); (· (rw [hrl]; rfl)); conv => whnf)
            | ((with_reducible refine forceL_to (store_all ?_) ?_); (· (rw [hrl, h8l])); conv => whnf)
            | ((with_reducible refine needm_of ?_ ?_); (· first | (rw [hsl]; rfl) | (rw [h8l]; rfl)); conv => whnf)
            | ((with_reducible refine forceL_to (whole_of ?_) ?_); (· first | (rw [hsl]; rfl) | (rw [h8l]; rfl)); conv => whnf)
            | ((with_reducible refine forceL_to (store_all ?_) ?_); (· first | rfl | (rw [hsl, h8l])); conv => whnf)
            | rw [← hz8]
            | ((with_reducible refine regx_of ?_ ?_); (· decide +kernel); conv => whnf)
            | ((with_reducible refine growx_pre ?_ ?_); (· exact ⟨_, rfl⟩); conv => whnf)
            | ((with_reducible refine needm_of ?_ ?_); (· first | assumption | exact decide_eq_true (by omega) | decide +kernel | (refine decide_eq_true ?_; simp (disch := omega) only [i64w]; omega)); conv => whnf)
            | ((with_reducible refine condm_pos ?_ ?_); (· assumption); conv => whnf)
            | ((with_reducible refine condm_neg ?_ ?_); (· assumption); conv => whnf)
            | ((with_reducible refine forceL_fv (by assumption) ?_); conv => whnf)
            | ((with_reducible refine forceL_rfv (by assumption) ?_); conv => whnf)
            | ((with_reducible refine forceNm_of ?_); conv => whnf)
            | ((with_reducible refine needm_of (fv_lenL (by assumption) (by assumption)) ?_); conv => whnf)
            | ((with_reducible refine optm_var (fv_strL (by assumption) (by assumption)) (fun s hs => ?_)); conv => whnf)
            | ((with_reducible refine forceA_of ?_); conv => whnf)
            | ((with_reducible refine forceL_fw (by assumption) ?_); conv => whnf)
            | ((with_reducible refine forceL_rfw (by assumption) ?_); conv => whnf)
            | ((with_reducible refine forceL_fl (by assumption) ?_); conv => whnf)
            | ((with_reducible refine forceL_rfl (by assumption) ?_); conv => whnf)
            | fail)
          refine Go.Eng.Fn.frame [1] (by simp [V.ren, (Flat.u32 hss).ren, A.ren, dsOf]) (by exact ⟨ren_fv hcs _ _ _, trivial⟩) (by simp [nodupb, V.okb, A.okb, Ob.okb, all_fv hcs, (Flat.u32 hss).all]) (block21 s ss hss cs L (marks 66 ++ y) n cap hcs hL.symm (fun rs2 e2 hrs2 he2 => ?_))
          obtain rfl : rs2 = rs := hrs2.trans hrs.symm
          obtain rfl : e2 = e := he2.trans he.symm
          conv => whnf
          repeat' (first
            | ((with_reducible refine needm_of ?_ ?_); (· first | (rw [hrl]; rfl) | (rw [hrl, h8l]; rfl)); conv => whnf)
            | ((with_reducible refine forceL_to (whole_of ?_) ?_); (· (rw [hrl]; rfl)); conv => whnf)
            | ((with_reducible refine forceL_to (store_all ?_) ?_); (· (rw [hrl, h8l])); conv => whnf)
            | ((with_reducible refine needm_of ?_ ?_); (· first | (rw [hsl]; rfl) | (rw [h8l]; rfl)); conv => whnf)
            | ((with_reducible refine forceL_to (whole_of ?_) ?_); (· first | (rw [hsl]; rfl) | (rw [h8l]; rfl)); conv => whnf)
            | ((with_reducible refine forceL_to (store_all ?_) ?_); (· first | rfl | (rw [hsl, h8l])); conv => whnf)
            | rw [← hz8]
            | ((with_reducible refine regx_of ?_ ?_); (· decide +kernel); conv => whnf)
            | ((with_reducible refine growx_pre ?_ ?_); (· exact ⟨_, rfl⟩); conv => whnf)
            | ((with_reducible refine needm_of ?_ ?_); (· first | assumption | exact decide_eq_true (by omega) | decide +kernel | (refine decide_eq_true ?_; simp (disch := omega) only [i64w]; omega)); conv => whnf)
            | ((with_reducible refine condm_pos ?_ ?_); (· assumption); conv => whnf)
            | ((with_reducible refine condm_neg ?_ ?_); (· assumption); conv => whnf)
            | ((with_reducible refine forceL_fv (by assumption) ?_); conv => whnf)
            | ((with_reducible refine forceL_rfv (by assumption) ?_); conv => whnf)
            | ((with_reducible refine forceNm_of ?_); conv => whnf)
            | ((with_reducible refine needm_of (fv_lenL (by assumption) (by assumption)) ?_); conv => whnf)
            | ((with_reducible refine optm_var (fv_strL (by assumption) (by assumption)) (fun s hs => ?_)); conv => whnf)
            | ((with_reducible refine forceA_of ?_); conv => whnf)
            | ((with_reducible refine forceL_fw (by assumption) ?_); conv => whnf)
            | ((with_reducible refine forceL_rfw (by assumption) ?_); conv => whnf)
            | ((with_reducible refine forceL_fl (by assumption) ?_); conv => whnf)
            | ((with_reducible refine forceL_rfl (by assumption) ?_); conv => whnf)
            | (refine ⟨_, same33 hrs (by unfold blkRow; split <;> rfl), ?_⟩; conv => whnf)
            | ((with_reducible refine condm_neg ?_ ?_); (· simp); conv => whnf)
            | fail)
          refine Go.Eng.Fn.frame [1, 3] (by rfl) (by exact ⟨ren_fv hcs _ _ _, ren_fv hcsn _ _ _, trivial⟩) (by simp [nodupb, V.okb, A.okb, Ob.okb, all_fv hcs, all_fv hcsn] <;> decide) (kept22 L y (List.replicate (capn - n) 0) cs csn n cap capn hcs hcsn hL.symm hcap hn ?_)
          conv => whnf
          repeat' (first
            | ((with_reducible refine needm_of ?_ ?_); (· first | (rw [hrl]; rfl) | (rw [hrl, h8l]; rfl)); conv => whnf)
            | ((with_reducible refine forceL_to (whole_of ?_) ?_); (· (rw [hrl]; rfl)); conv => whnf)
            | ((with_reducible refine forceL_to (store_all ?_) ?_); (· (rw [hrl, h8l])); conv => whnf)
            | ((with_reducible refine needm_of ?_ ?_); (· first | (rw [hsl]; rfl) | (rw [h8l]; rfl)); conv => whnf)
            | ((with_reducible refine forceL_to (whole_of ?_) ?_); (· first | (rw [hsl]; rfl) | (rw [h8l]; rfl)); conv => whnf)
            | ((with_reducible refine forceL_to (store_all ?_) ?_); (· first | rfl | (rw [hsl, h8l])); conv => whnf)
            | rw [← hz8]
            | ((with_reducible refine regx_of ?_ ?_); (· decide +kernel); conv => whnf)
            | ((with_reducible refine growx_pre ?_ ?_); (· exact ⟨_, rfl⟩); conv => whnf)
            | ((with_reducible refine needm_of ?_ ?_); (· first | assumption | exact decide_eq_true (by omega) | decide +kernel | (refine decide_eq_true ?_; simp (disch := omega) only [i64w]; omega)); conv => whnf)
            | ((with_reducible refine condm_pos ?_ ?_); (· assumption); conv => whnf)
            | ((with_reducible refine condm_neg ?_ ?_); (· assumption); conv => whnf)
            | ((with_reducible refine forceL_fv (by assumption) ?_); conv => whnf)
            | ((with_reducible refine forceL_rfv (by assumption) ?_); conv => whnf)
            | ((with_reducible refine forceNm_of ?_); conv => whnf)
            | ((with_reducible refine needm_of (fv_lenL (by assumption) (by assumption)) ?_); conv => whnf)
            | ((with_reducible refine optm_var (fv_strL (by assumption) (by assumption)) (fun s hs => ?_)); conv => whnf)
            | ((with_reducible refine forceA_of ?_); conv => whnf)
            | ((with_reducible refine forceL_fw (by assumption) ?_); conv => whnf)
            | ((with_reducible refine forceL_rfw (by assumption) ?_); conv => whnf)
            | ((with_reducible refine forceL_fl (by assumption) ?_); conv => whnf)
            | ((with_reducible refine forceL_rfl (by assumption) ?_); conv => whnf)
            | ((with_reducible refine condm_neg ?_ ?_); (· simp); conv => whnf)
            | fail)
          refine loopx_of (fun m F H => ∃ (i : Nat) (L : List UInt8) (cs : List A), i ≤ n ∧ m = n - i ∧ L.length = n ∧ cs = u8s (L ++ (marks 66 ++ y)) ∧ F = [(2, .a (.ptr 0 0)), (5, .a (.slc 1 0 n cap)), (6, .a (.int .i64 t)), (12, .a (.int .i64 i))] ∧ H = [.cells ss 33 false, .cells cs 5 false]) n ?_ ?_
          · refine Into.weak [0, 1] _ _ ⟨0, L, cs, by omega, rfl, hL, hcs, rfl, rfl⟩ ⟨rfl, rfl, rfl, rfl, trivial⟩ ⟨ren_fw hss _ _ _, ren_fv hcs _ _ _, trivial⟩ ?_
            simp [nodupb, baseb, Ob.okb, frmOk, V.okb, A.okb, all_fv hcs, all_fw hss] <;> decide
          · clear hcs hL L cs hcsn hrs he hcl hnew hrs2 he2
            rintro m F H ⟨i, L, cs, hi, rfl, hL, hcs, rfl, rfl⟩
            conv => whnf
            refine condm_of (fun h => ?_) (fun h => ?_)
            · have hin : i < n := by have := of_decide_eq_true h; omega
              have e5 : IntKind.i64.wrap (↑i + 1) = ((i + 1 : Nat) : Int) := by rw [i64w (by omega) (by omega)]; rfl
              have hiL : i < (L ++ (marks 66 ++ y)).length := by rw [List.length_append]; omega
              have hg : cs[0 + (i : Int).toNat * Try.prog.types[5].size]? = some (.int .u8 (((L ++ (marks 66 ++ y))[i]'hiL).toNat : Int)) := by
                rw [s5, Int.toNat_natCast, Nat.mul_one, Nat.zero_add]
                exact fv_get hcs hiL
              obtain ⟨b, hb⟩ := xor8 ((L ++ (marks 66 ++ y))[i]'hiL) 129
              generalize ((L ++ (marks 66 ++ y))[i]'hiL).toNat = a at *
              conv => whnf
              repeat' (first
                | ((with_reducible refine optm_of hg ?_); conv => whnf)
                | ((with_reducible refine needm_of ?_ ?_); (· first | (rw [hsl]; rfl) | (rw [h8l]; rfl)); conv => whnf)
                | ((with_reducible refine forceL_to (whole_of ?_) ?_); (· first | (rw [hsl]; rfl) | (rw [h8l]; rfl)); conv => whnf)
                | ((with_reducible refine forceL_to (store_all ?_) ?_); (· first | rfl | (rw [hsl, h8l])); conv => whnf)
                | rw [← hz8]
                | ((with_reducible refine regx_of ?_ ?_); (· decide +kernel); conv => whnf)
                | ((with_reducible refine growx_pre ?_ ?_); (· exact ⟨_, rfl⟩); conv => whnf)
                | ((with_reducible refine needm_of ?_ ?_); (· first | assumption | exact decide_eq_true (by omega) | decide +kernel | (refine decide_eq_true ?_; simp (disch := omega) only [i64w]; omega)); conv => whnf)
                | ((with_reducible refine condm_pos ?_ ?_); (· assumption); conv => whnf)
                | ((with_reducible refine condm_neg ?_ ?_); (· assumption); conv => whnf)
                | ((with_reducible refine forceL_fv (by assumption) ?_); conv => whnf)
                | ((with_reducible refine forceL_rfv (by assumption) ?_); conv => whnf)
                | ((with_reducible refine forceNm_of ?_); conv => whnf)
                | ((with_reducible refine needm_of (fv_lenL (by assumption) (by assumption)) ?_); conv => whnf)
                | ((with_reducible refine optm_var (fv_strL (by assumption) (by assumption)) (fun s hs => ?_)); conv => whnf)
                | ((with_reducible refine forceA_of ?_); conv => whnf)
                | ((with_reducible refine forceL_fw (by assumption) ?_); conv => whnf)
                | ((with_reducible refine forceL_rfw (by assumption) ?_); conv => whnf)
                | ((with_reducible refine forceL_fl (by assumption) ?_); conv => whnf)
                | ((with_reducible refine forceL_rfl (by assumption) ?_); conv => whnf)
                | fail)
              rw [hb]
              refine needm_of (by rw [u8s_len hcs, s5, List.length_append]; simp; omega) ?_
              conv => whnf
              repeat' (first
                | ((with_reducible refine needm_of ?_ ?_); (· first | (rw [hsl]; rfl) | (rw [h8l]; rfl)); conv => whnf)
                | ((with_reducible refine forceL_to (whole_of ?_) ?_); (· first | (rw [hsl]; rfl) | (rw [h8l]; rfl)); conv => whnf)
                | ((with_reducible refine forceL_to (store_all ?_) ?_); (· first | rfl | (rw [hsl, h8l])); conv => whnf)
                | rw [← hz8]
                | ((with_reducible refine regx_of ?_ ?_); (· decide +kernel); conv => whnf)
                | ((with_reducible refine growx_pre ?_ ?_); (· exact ⟨_, rfl⟩); conv => whnf)
                | ((with_reducible refine needm_of ?_ ?_); (· first | assumption | exact decide_eq_true (by omega) | decide +kernel | (refine decide_eq_true ?_; simp (disch := omega) only [i64w]; omega)); conv => whnf)
                | ((with_reducible refine condm_pos ?_ ?_); (· assumption); conv => whnf)
                | ((with_reducible refine condm_neg ?_ ?_); (· assumption); conv => whnf)
                | ((with_reducible refine forceL_fv (by assumption) ?_); conv => whnf)
                | ((with_reducible refine forceL_rfv (by assumption) ?_); conv => whnf)
                | ((with_reducible refine forceNm_of ?_); conv => whnf)
                | ((with_reducible refine needm_of (fv_lenL (by assumption) (by assumption)) ?_); conv => whnf)
                | ((with_reducible refine optm_var (fv_strL (by assumption) (by assumption)) (fun s hs => ?_)); conv => whnf)
                | ((with_reducible refine forceA_of ?_); conv => whnf)
                | ((with_reducible refine forceL_fw (by assumption) ?_); conv => whnf)
                | ((with_reducible refine forceL_rfw (by assumption) ?_); conv => whnf)
                | ((with_reducible refine forceL_fl (by assumption) ?_); conv => whnf)
                | ((with_reducible refine forceL_rfl (by assumption) ?_); conv => whnf)
                | fail)
              refine forceL_var (fv_set hcs rfl) (fun cs' hcs' => ?_)
              conv => whnf
              repeat' (first
                | ((with_reducible refine needm_of ?_ ?_); (· first | (rw [hsl]; rfl) | (rw [h8l]; rfl)); conv => whnf)
                | ((with_reducible refine forceL_to (whole_of ?_) ?_); (· first | (rw [hsl]; rfl) | (rw [h8l]; rfl)); conv => whnf)
                | ((with_reducible refine forceL_to (store_all ?_) ?_); (· first | rfl | (rw [hsl, h8l])); conv => whnf)
                | rw [← hz8]
                | ((with_reducible refine regx_of ?_ ?_); (· decide +kernel); conv => whnf)
                | ((with_reducible refine growx_pre ?_ ?_); (· exact ⟨_, rfl⟩); conv => whnf)
                | ((with_reducible refine needm_of ?_ ?_); (· first | assumption | exact decide_eq_true (by omega) | decide +kernel | (refine decide_eq_true ?_; simp (disch := omega) only [i64w]; omega)); conv => whnf)
                | ((with_reducible refine condm_pos ?_ ?_); (· assumption); conv => whnf)
                | ((with_reducible refine condm_neg ?_ ?_); (· assumption); conv => whnf)
                | ((with_reducible refine forceL_fv (by assumption) ?_); conv => whnf)
                | ((with_reducible refine forceL_rfv (by assumption) ?_); conv => whnf)
                | ((with_reducible refine forceNm_of ?_); conv => whnf)
                | ((with_reducible refine needm_of (fv_lenL (by assumption) (by assumption)) ?_); conv => whnf)
                | ((with_reducible refine optm_var (fv_strL (by assumption) (by assumption)) (fun s hs => ?_)); conv => whnf)
                | ((with_reducible refine forceA_of ?_); conv => whnf)
                | ((with_reducible refine forceL_fw (by assumption) ?_); conv => whnf)
                | ((with_reducible refine forceL_rfw (by assumption) ?_); conv => whnf)
                | ((with_reducible refine forceL_fl (by assumption) ?_); conv => whnf)
                | ((with_reducible refine forceL_rfl (by assumption) ?_); conv => whnf)
                | fail)
              rw [s5, Nat.zero_add, Nat.mul_one, Int.toNat_natCast, List.set_append_left _ _ (by omega)] at hcs'
              refine ⟨n - (i + 1), by omega, Into.weak [0, 1] _ _ ⟨i + 1, _, cs', by omega, rfl, by rw [List.length_set]; exact hL, hcs', rfl, rfl⟩ ⟨rfl, rfl, rfl, congrArg (fun z => some (V.a (.int .i64 z))) e5, trivial⟩ ⟨ren_fw hss _ _ _, ren_fv hcs' _ _ _, trivial⟩ ?_⟩
              simp [nodupb, baseb, Ob.okb, frmOk, V.okb, A.okb, all_fv hcs', all_fw hss] <;> decide
            · conv => whnf
              refine ⟨2 - (t + 1), by omega, Into.weak [0, 1] _ _ ⟨t + 1, L, cs, by omega, rfl, hL, hcs, rfl, rfl⟩ ⟨rfl, rfl, congrArg (fun z => some (V.a (.int .i64 z))) e4, trivial⟩ ⟨ren_fw hss _ _ _, ren_fv hcs _ _ _, trivial⟩ ?_⟩
              simp [nodupb, baseb, Ob.okb, frmOk, V.okb, A.okb, all_fv hcs, all_fw hss] <;> decide
      · conv => whnf
        refine Go.Eng.Fn.frame [] (by rfl) (by exact trivial) (by rfl) (start23 (fun ks hks => ?_))
        subst hks
        conv => whnf
        repeat' (first
          | ((with_reducible refine needm_of ?_ ?_); (· first | (rw [hsl]; rfl) | (rw [h8l]; rfl)); conv => whnf)
          | ((with_reducible refine forceL_to (whole_of ?_) ?_); (· first | (rw [hsl]; rfl) | (rw [h8l]; rfl)); conv => whnf)
          | ((with_reducible refine forceL_to (store_all ?_) ?_); (· first | rfl | (rw [hsl, h8l])); conv => whnf)
          | rw [← hz8]
          | ((with_reducible refine regx_of ?_ ?_); (· decide +kernel); conv => whnf)
          | ((with_reducible refine growx_pre ?_ ?_); (· exact ⟨_, rfl⟩); conv => whnf)
          | ((with_reducible refine needm_of ?_ ?_); (· first | assumption | exact decide_eq_true (by omega) | decide +kernel | (refine decide_eq_true ?_; simp (disch := omega) only [i64w]; omega)); conv => whnf)
          | ((with_reducible refine condm_pos ?_ ?_); (· assumption); conv => whnf)
          | ((with_reducible refine condm_neg ?_ ?_); (· assumption); conv => whnf)
          | ((with_reducible refine forceL_fv (by assumption) ?_); conv => whnf)
          | ((with_reducible refine forceL_rfv (by assumption) ?_); conv => whnf)
          | ((with_reducible refine forceNm_of ?_); conv => whnf)
          | ((with_reducible refine needm_of (fv_lenL (by assumption) (by assumption)) ?_); conv => whnf)
          | ((with_reducible refine optm_var (fv_strL (by assumption) (by assumption)) (fun s hs => ?_)); conv => whnf)
          | ((with_reducible refine forceA_of ?_); conv => whnf)
          | ((with_reducible refine forceL_fw (by assumption) ?_); conv => whnf)
          | ((with_reducible refine forceL_rfw (by assumption) ?_); conv => whnf)
          | ((with_reducible refine forceL_fl (by assumption) ?_); conv => whnf)
          | ((with_reducible refine forceL_rfl (by assumption) ?_); conv => whnf)
          | fail)
        refine Go.Eng.Fn.frame [] (by rfl) (by exact trivial) (by rfl) (start24 (fun ks hks => ?_))
        subst hks
        conv => whnf
        repeat' (first
          | ((with_reducible refine needm_of ?_ ?_); (· first | (rw [hsl]; rfl) | (rw [h8l]; rfl)); conv => whnf)
          | ((with_reducible refine forceL_to (whole_of ?_) ?_); (· first | (rw [hsl]; rfl) | (rw [h8l]; rfl)); conv => whnf)
          | ((with_reducible refine forceL_to (store_all ?_) ?_); (· first | rfl | (rw [hsl, h8l])); conv => whnf)
          | rw [← hz8]
          | ((with_reducible refine regx_of ?_ ?_); (· decide +kernel); conv => whnf)
          | ((with_reducible refine growx_pre ?_ ?_); (· exact ⟨_, rfl⟩); conv => whnf)
          | ((with_reducible refine needm_of ?_ ?_); (· first | assumption | exact decide_eq_true (by omega) | decide +kernel | (refine decide_eq_true ?_; simp (disch := omega) only [i64w]; omega)); conv => whnf)
          | ((with_reducible refine condm_pos ?_ ?_); (· assumption); conv => whnf)
          | ((with_reducible refine condm_neg ?_ ?_); (· assumption); conv => whnf)
          | ((with_reducible refine forceL_fv (by assumption) ?_); conv => whnf)
          | ((with_reducible refine forceL_rfv (by assumption) ?_); conv => whnf)
          | ((with_reducible refine forceNm_of ?_); conv => whnf)
          | ((with_reducible refine needm_of (fv_lenL (by assumption) (by assumption)) ?_); conv => whnf)
          | ((with_reducible refine optm_var (fv_strL (by assumption) (by assumption)) (fun s hs => ?_)); conv => whnf)
          | ((with_reducible refine forceA_of ?_); conv => whnf)
          | ((with_reducible refine forceL_fw (by assumption) ?_); conv => whnf)
          | ((with_reducible refine forceL_rfw (by assumption) ?_); conv => whnf)
          | ((with_reducible refine forceL_fl (by assumption) ?_); conv => whnf)
          | ((with_reducible refine forceL_rfl (by assumption) ?_); conv => whnf)
          | (refine ⟨_, EqAgg.of rfl, ?_⟩; conv => whnf)
          | fail)
        rfl
  ·
    refine Go.Eng.Fn.of 0 (gOf []) rfl Try.func5 rfl (Nat.le_of_ble_eq_true rfl) ?_
    conv => whnf
    repeat' (first
      | ((with_reducible refine needm_of ?_ ?_); (· first | (rw [hsl]; rfl) | (rw [h8l]; rfl)); conv => whnf)
      | ((with_reducible refine forceL_to (whole_of ?_) ?_); (· first | (rw [hsl]; rfl) | (rw [h8l]; rfl)); conv => whnf)
      | ((with_reducible refine forceL_to (store_all ?_) ?_); (· first | rfl | (rw [hsl, h8l])); conv => whnf)
      | rw [← hz8]
      | ((with_reducible refine regx_of ?_ ?_); (· decide +kernel); conv => whnf)
      | ((with_reducible refine growx_pre ?_ ?_); (· exact ⟨_, rfl⟩); conv => whnf)
      | ((with_reducible refine needm_of ?_ ?_); (· first | assumption | exact decide_eq_true (by omega) | decide +kernel | (refine decide_eq_true ?_; simp (disch := omega) only [i64w]; omega)); conv => whnf)
      | ((with_reducible refine condm_pos ?_ ?_); (· assumption); conv => whnf)
      | ((with_reducible refine condm_neg ?_ ?_); (· assumption); conv => whnf)
      | ((with_reducible refine forceL_fv (by assumption) ?_); conv => whnf)
      | ((with_reducible refine forceL_rfv (by assumption) ?_); conv => whnf)
      | ((with_reducible refine forceNm_of ?_); conv => whnf)
      | ((with_reducible refine needm_of (fv_lenL (by assumption) (by assumption)) ?_); conv => whnf)
      | ((with_reducible refine optm_var (fv_strL (by assumption) (by assumption)) (fun s hs => ?_)); conv => whnf)
      | ((with_reducible refine forceA_of ?_); conv => whnf)
      | ((with_reducible refine forceL_fw (by assumption) ?_); conv => whnf)
      | ((with_reducible refine forceL_rfw (by assumption) ?_); conv => whnf)
      | ((with_reducible refine forceL_fl (by assumption) ?_); conv => whnf)
      | ((with_reducible refine forceL_rfl (by assumption) ?_); conv => whnf)
      | fail)
    refine Go.Eng.Fn.frame [] (by rfl) (by exact trivial) (by rfl) (lent19 _ L hx0 hn (fun y cs cap hcs hcap => ?_))
    rw [List.append_assoc] at hcs
    conv => whnf
    repeat' (first
      | ((with_reducible refine needm_of ?_ ?_); (· first | (rw [hsl]; rfl) | (rw [h8l]; rfl)); conv => whnf)
      | ((with_reducible refine forceL_to (whole_of ?_) ?_); (· first | (rw [hsl]; rfl) | (rw [h8l]; rfl)); conv => whnf)
      | ((with_reducible refine forceL_to (store_all ?_) ?_); (· first | rfl | (rw [hsl, h8l])); conv => whnf)
      | rw [← hz8]
      | ((with_reducible refine regx_of ?_ ?_); (· decide +kernel); conv => whnf)
      | ((with_reducible refine growx_pre ?_ ?_); (· exact ⟨_, rfl⟩); conv => whnf)
      | ((with_reducible refine needm_of ?_ ?_); (· first | assumption | exact decide_eq_true (by omega) | decide +kernel | (refine decide_eq_true ?_; simp (disch := omega) only [i64w]; omega)); conv => whnf)
      | ((with_reducible refine condm_pos ?_ ?_); (· assumption); conv => whnf)
      | ((with_reducible refine condm_neg ?_ ?_); (· assumption); conv => whnf)
      | ((with_reducible refine forceL_fv (by assumption) ?_); conv => whnf)
      | ((with_reducible refine forceL_rfv (by assumption) ?_); conv => whnf)
      | ((with_reducible refine forceNm_of ?_); conv => whnf)
      | ((with_reducible refine needm_of (fv_lenL (by assumption) (by assumption)) ?_); conv => whnf)
      | ((with_reducible refine optm_var (fv_strL (by assumption) (by assumption)) (fun s hs => ?_)); conv => whnf)
      | ((with_reducible refine forceA_of ?_); conv => whnf)
      | ((with_reducible refine forceL_fw (by assumption) ?_); conv => whnf)
      | ((with_reducible refine forceL_rfw (by assumption) ?_); conv => whnf)
      | ((with_reducible refine forceL_fl (by assumption) ?_); conv => whnf)
      | ((with_reducible refine forceL_rfl (by assumption) ?_); conv => whnf)
      | fail)
    generalize hn' : L.length = n at *
    refine loopx_of (fun m F H => ∃ (t : Nat) (L : List UInt8) (cs : List A), t ≤ 2 ∧ m = 2 - t ∧ L.length = n ∧ cs = u8s (L ++ (marks 66 ++ y)) ∧ F = [(2, .a (.ptr 0 0)), (5, .a (.slc 1 0 n cap)), (6, .a (.int .i64 t))] ∧ H = [.cells ss 33 false, .cells cs 5 false]) 2 ?_ ?_
    · refine Into.weak [0, 1] _ _ ⟨0, L, cs, by omega, rfl, hn', hcs, rfl, rfl⟩ ⟨rfl, rfl, rfl, trivial⟩ ⟨ren_fw hss _ _ _, ren_fv hcs _ _ _, trivial⟩ ?_
      simp [nodupb, baseb, Ob.okb, frmOk, V.okb, A.okb, all_fv hcs, all_fw hss] <;> decide
    · clear hcs hn' hx0
      rintro m F H ⟨t, L, cs, ht, rfl, hL, hcs, rfl, rfl⟩
      conv => whnf
      refine condm_of (fun h => ?_) (fun h => ?_)
      · have ht2 : t < 2 := by have := of_decide_eq_true h; omega
        have e4 : IntKind.i64.wrap (↑t + 1) = ((t + 1 : Nat) : Int) := by rw [i64w (by omega) (by omega)]; rfl
        have hcl : cs.length = n + 66 + y.length := by rw [u8s_len hcs, List.length_append, List.length_append, marks_length, hL]; omega
        conv => whnf
        repeat' (first
          | ((with_reducible refine needm_of ?_ ?_); (· first | (rw [hsl]; rfl) | (rw [h8l]; rfl)); conv => whnf)
          | ((with_reducible refine forceL_to (whole_of ?_) ?_); (· first | (rw [hsl]; rfl) | (rw [h8l]; rfl)); conv => whnf)
          | ((with_reducible refine forceL_to (store_all ?_) ?_); (· first | rfl | (rw [hsl, h8l])); conv => whnf)
          | rw [← hz8]
          | ((with_reducible refine regx_of ?_ ?_); (· decide +kernel); conv => whnf)
          | ((with_reducible refine growx_pre ?_ ?_); (· exact ⟨_, rfl⟩); conv => whnf)
          | ((with_reducible refine needm_of ?_ ?_); (· first | assumption | exact decide_eq_true (by omega) | decide +kernel | (refine decide_eq_true ?_; simp (disch := omega) only [i64w]; omega)); conv => whnf)
          | ((with_reducible refine condm_pos ?_ ?_); (· assumption); conv => whnf)
          | ((with_reducible refine condm_neg ?_ ?_); (· assumption); conv => whnf)
          | ((with_reducible refine forceL_fv (by assumption) ?_); conv => whnf)
          | ((with_reducible refine forceL_rfv (by assumption) ?_); conv => whnf)
          | ((with_reducible refine forceNm_of ?_); conv => whnf)
          | ((with_reducible refine needm_of (fv_lenL (by assumption) (by assumption)) ?_); conv => whnf)
          | ((with_reducible refine optm_var (fv_strL (by assumption) (by assumption)) (fun s hs => ?_)); conv => whnf)
          | ((with_reducible refine forceA_of ?_); conv => whnf)
          | ((with_reducible refine forceL_fw (by assumption) ?_); conv => whnf)
          | ((with_reducible refine forceL_rfw (by assumption) ?_); conv => whnf)
          | ((with_reducible refine forceL_fl (by assumption) ?_); conv => whnf)
          | ((with_reducible refine forceL_rfl (by assumption) ?_); conv => whnf)
          | fail)
        refine needm_of (decide_eq_true (by rw [s5]; omega)) ?_
        conv => whnf
        have hnew : List.drop 0 (List.take (0 + n * Try.prog.types[5].size) cs) = u8s L := by
          rw [s5, hcs, List.drop_zero, u8s_take, List.take_append_of_le_length (by omega), List.take_of_length_le (by omega)]
        rw [hnew]
        refine condm_of (fun hc => ?_) (fun hc => ?_)
        · have hc' := of_decide_eq_true hc
          have hL0 : L = [] := List.length_eq_zero_iff.1 (by omega)
          conv => whnf
          refine needm_of (by rw [u8s_length, hL0]; rfl) ?_
          conv => whnf
          repeat' (first
            | ((with_reducible refine needm_of ?_ ?_); (· first | (rw [hsl]; rfl) | (rw [h8l]; rfl)); conv => whnf)
            | ((with_reducible refine forceL_to (whole_of ?_) ?_); (· first | (rw [hsl]; rfl) | (rw [h8l]; rfl)); conv => whnf)
            | ((with_reducible refine forceL_to (store_all ?_) ?_); (· first | rfl | (rw [hsl, h8l])); conv => whnf)
            | rw [← hz8]
            | ((with_reducible refine regx_of ?_ ?_); (· decide +kernel); conv => whnf)
            | ((with_reducible refine growx_pre ?_ ?_); (· exact ⟨_, rfl⟩); conv => whnf)
            | ((with_reducible refine needm_of ?_ ?_); (· first | assumption | exact decide_eq_true (by omega) | decide +kernel | (refine decide_eq_true ?_; simp (disch := omega) only [i64w]; omega)); conv => whnf)
            | ((with_reducible refine condm_pos ?_ ?_); (· assumption); conv => whnf)
            | ((with_reducible refine condm_neg ?_ ?_); (· assumption); conv => whnf)
            | ((with_reducible refine forceL_fv (by assumption) ?_); conv => whnf)
            | ((with_reducible refine forceL_rfv (by assumption) ?_); conv => whnf)
            | ((with_reducible refine forceNm_of ?_); conv => whnf)
            | ((with_reducible refine needm_of (fv_lenL (by assumption) (by assumption)) ?_); conv => whnf)
            | ((with_reducible refine optm_var (fv_strL (by assumption) (by assumption)) (fun s hs => ?_)); conv => whnf)
            | ((with_reducible refine forceA_of ?_); conv => whnf)
            | ((with_reducible refine forceL_fw (by assumption) ?_); conv => whnf)
            | ((with_reducible refine forceL_rfw (by assumption) ?_); conv => whnf)
            | ((with_reducible refine forceL_fl (by assumption) ?_); conv => whnf)
            | ((with_reducible refine forceL_rfl (by assumption) ?_); conv => whnf)
            | fail)
          refine forceL_var (l := storeL [] (0 + 0 * Try.prog.types[5].size) (u8s L)) (l' := u8s (L ++ [])) (by rw [hL0]; simp [storeL]) (fun csn hcsn => ?_)
          conv => whnf
          repeat' (first
            | ((with_reducible refine needm_of ?_ ?_); (· first | (rw [hsl]; rfl) | (rw [h8l]; rfl)); conv => whnf)
            | ((with_reducible refine forceL_to (whole_of ?_) ?_); (· first | (rw [hsl]; rfl) | (rw [h8l]; rfl)); conv => whnf)
            | ((with_reducible refine forceL_to (store_all ?_) ?_); (· first | rfl | (rw [hsl, h8l])); conv => whnf)
            | rw [← hz8]
            | ((with_reducible refine regx_of ?_ ?_); (· decide +kernel); conv => whnf)
            | ((with_reducible refine growx_pre ?_ ?_); (· exact ⟨_, rfl⟩); conv => whnf)
            | ((with_reducible refine needm_of ?_ ?_); (· first | assumption | exact decide_eq_true (by omega) | decide +kernel | (refine decide_eq_true ?_; simp (disch := omega) only [i64w]; omega)); conv => whnf)
            | ((with_reducible refine condm_pos ?_ ?_); (· assumption); conv => whnf)
            | ((with_reducible refine condm_neg ?_ ?_); (· assumption); conv => whnf)
            | ((with_reducible refine forceL_fv (by assumption) ?_); conv => whnf)
            | ((with_reducible refine forceL_rfv (by assumption) ?_); conv => whnf)
            | ((with_reducible refine forceNm_of ?_); conv => whnf)
            | ((with_reducible refine needm_of (fv_lenL (by assumption) (by assumption)) ?_); conv => whnf)
            | ((with_reducible refine optm_var (fv_strL (by assumption) (by assumption)) (fun s hs => ?_)); conv => whnf)
            | ((with_reducible refine forceA_of ?_); conv => whnf)
            | ((with_reducible refine forceL_fw (by assumption) ?_); conv => whnf)
            | ((with_reducible refine forceL_rfw (by assumption) ?_); conv => whnf)
            | ((with_reducible refine forceL_fl (by assumption) ?_); conv => whnf)
            | ((with_reducible refine forceL_rfl (by assumption) ?_); conv => whnf)
            | fail)
          rw [Nat.zero_add n]
          refine Go.Eng.Fn.frame [2] (by simp [V.ren, (Flat.u32 hss).ren, A.ren, dsOf]) (by exact ⟨ren_fv hcsn _ _ _, trivial⟩) (by simp [nodupb, V.okb, A.okb, Ob.okb, all_fv hcsn, (Flat.u32 hss).all]) (block20 s ss hss csn L [] n 0 hcsn hL.symm (fun rs e hrs he => ?_))
          have hrl : rs.length = 8 := by rw [fw_len hrs]; unfold blkRow; split <;> rfl
          conv => whnf
          repeat' (first
            | ((with_reducible refine needm_of ?_ ?_); (· first | (rw [hrl]; rfl) | (rw [hrl, h8l]; rfl)); conv => whnf)
            | ((with_reducible refine forceL_to (whole_of ?_) ?_); (· (rw [hrl]; rfl)); conv => whnf)
            | ((with_reducible refine forceL_to (store_all ?_) ?_); (· (rw [hrl, h8l])); conv => whnf)
            | ((with_reducible refine needm_of ?_ ?_); (· first | (rw [hsl]; rfl) | (rw [h8l]; rfl)); conv => whnf)
            | ((with_reducible refine forceL_to (whole_of ?_) ?_); (· first | (rw [hsl]; rfl) | (rw [h8l]; rfl)); conv => whnf)
            | ((with_reducible refine forceL_to (store_all ?_) ?_); (· first | rfl | (rw [hsl, h8l])); conv => whnf)
            | rw [← hz8]
            | ((with_reducible refine regx_of ?_ ?_); (· decide +kernel); conv => whnf)
            | ((with_reducible refine growx_pre ?_ ?_); (· exact ⟨_, rfl⟩); conv => whnf)
            | ((with_reducible refine needm_of ?_ ?_); (· first | assumption | exact decide_eq_true (by omega) | decide +kernel | (refine decide_eq_true ?_; simp (disch := omega) only [i64w]; omega)); conv => whnf)
            | ((with_reducible refine condm_pos ?_ ?_); (· assumption); conv => whnf)
            | ((with_reducible refine condm_neg ?_ ?_); (· assumption); conv => whnf)
            | ((with_reducible refine forceL_fv (by assumption) ?_); conv => whnf)
            | ((with_reducible refine forceL_rfv (by assumption) ?_); conv => whnf)
            | ((with_reducible refine forceNm_of ?_); conv => whnf)
            | ((with_reducible refine needm_of (fv_lenL (by assumption) (by assumption)) ?_); conv => whnf)
            | ((with_reducible refine optm_var (fv_strL (by assumption) (by assumption)) (fun s hs => ?_)); conv => whnf)
            | ((with_reducible refine forceA_of ?_); conv => whnf)
            | ((with_reducible refine forceL_fw (by assumption) ?_); conv => whnf)
            | ((with_reducible refine forceL_rfw (by assumption) ?_); conv => whnf)
            | ((with_reducible refine forceL_fl (by assumption) ?_); conv => whnf)
            | ((with_reducible refine forceL_rfl (by assumption) ?_); conv => whnf)
            | fail)
          refine Go.Eng.Fn.frame [1] (by simp [V.ren, (Flat.u32 hss).ren, A.ren, dsOf]) (by exact ⟨ren_fv hcs _ _ _, trivial⟩) (by simp [nodupb, V.okb, A.okb, Ob.okb, all_fv hcs, (Flat.u32 hss).all]) (block21 s ss hss cs L (marks 66 ++ y) n cap hcs hL.symm (fun rs2 e2 hrs2 he2 => ?_))
          obtain rfl : rs2 = rs := hrs2.trans hrs.symm
          obtain rfl : e2 = e := he2.trans he.symm
          conv => whnf
          repeat' (first
            | ((with_reducible refine needm_of ?_ ?_); (· first | (rw [hrl]; rfl) | (rw [hrl, h8l]; rfl)); conv => whnf)
            | ((with_reducible refine forceL_to (whole_of ?_) ?_); (· (rw [hrl]; rfl)); conv => whnf)
            | ((with_reducible refine forceL_to (store_all ?_) ?_); (· (rw [hrl, h8l])); conv => whnf)
            | ((with_reducible refine needm_of ?_ ?_); (· first | (rw [hsl]; rfl) | (rw [h8l]; rfl)); conv => whnf)
            | ((with_reducible refine forceL_to (whole_of ?_) ?_); (· first | (rw [hsl]; rfl) | (rw [h8l]; rfl)); conv => whnf)
            | ((with_reducible refine forceL_to (store_all ?_) ?_); (· first | rfl | (rw [hsl, h8l])); conv => whnf)
            | rw [← hz8]
            | ((with_reducible refine regx_of ?_ ?_); (· decide +kernel); conv => whnf)
            | ((with_reducible refine growx_pre ?_ ?_); (· exact ⟨_, rfl⟩); conv => whnf)
            | ((with_reducible refine needm_of ?_ ?_); (· first | assumption | exact decide_eq_true (by omega) | decide +kernel | (refine decide_eq_true ?_; simp (disch := omega) only [i64w]; omega)); conv => whnf)
            | ((with_reducible refine condm_pos ?_ ?_); (· assumption); conv => whnf)
            | ((with_reducible refine condm_neg ?_ ?_); (· assumption); conv => whnf)
            | ((with_reducible refine forceL_fv (by assumption) ?_); conv => whnf)
            | ((with_reducible refine forceL_rfv (by assumption) ?_); conv => whnf)
            | ((with_reducible refine forceNm_of ?_); conv => whnf)
            | ((with_reducible refine needm_of (fv_lenL (by assumption) (by assumption)) ?_); conv => whnf)
            | ((with_reducible refine optm_var (fv_strL (by assumption) (by assumption)) (fun s hs => ?_)); conv => whnf)
            | ((with_reducible refine forceA_of ?_); conv => whnf)
            | ((with_reducible refine forceL_fw (by assumption) ?_); conv => whnf)
            | ((with_reducible refine forceL_rfw (by assumption) ?_); conv => whnf)
            | ((with_reducible refine forceL_fl (by assumption) ?_); conv => whnf)
            | ((with_reducible refine forceL_rfl (by assumption) ?_); conv => whnf)
            | (refine ⟨_, same33 hrs (by unfold blkRow; split <;> rfl), ?_⟩; conv => whnf)
            | ((with_reducible refine condm_neg ?_ ?_); (· simp); conv => whnf)
            | fail)
          refine Go.Eng.Fn.frame [1, 2] (by rfl) (by exact ⟨ren_fv hcs _ _ _, ren_fv hcsn _ _ _, trivial⟩) (by simp [nodupb, V.okb, A.okb, Ob.okb, all_fv hcs, all_fv hcsn] <;> decide) (kept22 L y [] cs csn n cap 0 hcs hcsn hL.symm hcap hn ?_)
          conv => whnf
          repeat' (first
            | ((with_reducible refine needm_of ?_ ?_); (· first | (rw [hrl]; rfl) | (rw [hrl, h8l]; rfl)); conv => whnf)
            | ((with_reducible refine forceL_to (whole_of ?_) ?_); (· (rw [hrl]; rfl)); conv => whnf)
            | ((with_reducible refine forceL_to (store_all ?_) ?_); (· (rw [hrl, h8l])); conv => whnf)
            | ((with_reducible refine needm_of ?_ ?_); (· first | (rw [hsl]; rfl) | (rw [h8l]; rfl)); conv => whnf)
            | ((with_reducible refine forceL_to (whole_of ?_) ?_); (· first | (rw [hsl]; rfl) | (rw [h8l]; rfl)); conv => whnf)
            | ((with_reducible refine forceL_to (store_all ?_) ?_); (· first | rfl | (rw [hsl, h8l])); conv => whnf)
            | rw [← hz8]
            | ((with_reducible refine regx_of ?_ ?_); (· decide +kernel); conv => whnf)
            | ((with_reducible refine growx_pre ?_ ?_); (· exact ⟨_, rfl⟩); conv => whnf)
            | ((with_reducible refine needm_of ?_ ?_); (· first | assumption | exact decide_eq_true (by omega) | decide +kernel | (refine decide_eq_true ?_; simp (disch := omega) only [i64w]; omega)); conv => whnf)
            | ((with_reducible refine condm_pos ?_ ?_); (· assumption); conv => whnf)
            | ((with_reducible refine condm_neg ?_ ?_); (· assumption); conv => whnf)
            | ((with_reducible refine forceL_fv (by assumption) ?_); conv => whnf)
            | ((with_reducible refine forceL_rfv (by assumption) ?_); conv => whnf)
            | ((with_reducible refine forceNm_of ?_); conv => whnf)
            | ((with_reducible refine needm_of (fv_lenL (by assumption) (by assumption)) ?_); conv => whnf)
            | ((with_reducible refine optm_var (fv_strL (by assumption) (by assumption)) (fun s hs => ?_)); conv => whnf)
            | ((with_reducible refine forceA_of ?_); conv => whnf)
            | ((with_reducible refine forceL_fw (by assumption) ?_); conv => whnf)
            | ((with_reducible refine forceL_rfw (by assumption) ?_); conv => whnf)
            | ((with_reducible refine forceL_fl (by assumption) ?_); conv => whnf)
            | ((with_reducible refine forceL_rfl (by assumption) ?_); conv => whnf)
            | ((with_reducible refine condm_neg ?_ ?_); (· simp); conv => whnf)
            | fail)
          refine loopx_of (fun m F H => ∃ (i : Nat) (L : List UInt8) (cs : List A), i ≤ n ∧ m = n - i ∧ L.length = n ∧ cs = u8s (L ++ (marks 66 ++ y)) ∧ F = [(2, .a (.ptr 0 0)), (5, .a (.slc 1 0 n cap)), (6, .a (.int .i64 t)), (12, .a (.int .i64 i))] ∧ H = [.cells ss 33 false, .cells cs 5 false]) n ?_ ?_
          · refine Into.weak [0, 1] _ _ ⟨0, L, cs, by omega, rfl, hL, hcs, rfl, rfl⟩ ⟨rfl, rfl, rfl, rfl, trivial⟩ ⟨ren_fw hss _ _ _, ren_fv hcs _ _ _, trivial⟩ ?_
            simp [nodupb, baseb, Ob.okb, frmOk, V.okb, A.okb, all_fv hcs, all_fw hss] <;> decide
          · clear hcs hL L cs hcsn hrs he hcl hnew hrs2 he2 hL0
            rintro m F H ⟨i, L, cs, hi, rfl, hL, hcs, rfl, rfl⟩
            conv => whnf
            refine condm_of (fun h => ?_) (fun h => ?_)
            · have hin : i < n := by have := of_decide_eq_true h; omega
              omega
            · conv => whnf
              refine ⟨2 - (t + 1), by omega, Into.weak [0, 1] _ _ ⟨t + 1, L, cs, by omega, rfl, hL, hcs, rfl, rfl⟩ ⟨rfl, rfl, congrArg (fun z => some (V.a (.int .i64 z))) e4, trivial⟩ ⟨ren_fw hss _ _ _, ren_fv hcs _ _ _, trivial⟩ ?_⟩
              simp [nodupb, baseb, Ob.okb, frmOk, V.okb, A.okb, all_fv hcs, all_fw hss] <;> decide
        · have hc' := of_decide_eq_false hc
          refine needm_of (decide_eq_true (by rw [s5]; exact ⟨by simp, by show (_ : Nat) * 1 ≤ _; omega, by omega⟩)) ?_
          intro capn hcapn
          obtain ⟨nl, hnl⟩ : ∃ l : List A, l = [] := ⟨_, rfl⟩
          have hnu : nl = u8s [] := by rw [hnl]; simp
          rw [← hnl]
          conv => whnf
          repeat' (first
            | ((with_reducible refine needm_of ?_ ?_); (· first | (rw [hsl]; rfl) | (rw [h8l]; rfl)); conv => whnf)
            | ((with_reducible refine forceL_to (whole_of ?_) ?_); (· first | (rw [hsl]; rfl) | (rw [h8l]; rfl)); conv => whnf)
            | ((with_reducible refine forceL_to (store_all ?_) ?_); (· first | rfl | (rw [hsl, h8l])); conv => whnf)
            | rw [← hz8]
            | ((with_reducible refine regx_of ?_ ?_); (· decide +kernel); conv => whnf)
            | ((with_reducible refine growx_pre ?_ ?_); (· exact ⟨_, rfl⟩); conv => whnf)
            | ((with_reducible refine needm_of ?_ ?_); (· first | assumption | exact decide_eq_true (by omega) | decide +kernel | (refine decide_eq_true ?_; simp (disch := omega) only [i64w]; omega)); conv => whnf)
            | ((with_reducible refine condm_pos ?_ ?_); (· assumption); conv => whnf)
            | ((with_reducible refine condm_neg ?_ ?_); (· assumption); conv => whnf)
            | ((with_reducible refine forceL_fv (by assumption) ?_); conv => whnf)
            | ((with_reducible refine forceL_rfv (by assumption) ?_); conv => whnf)
            | ((with_reducible refine forceNm_of ?_); conv => whnf)
            | ((with_reducible refine needm_of (fv_lenL (by assumption) (by assumption)) ?_); conv => whnf)
            | ((with_reducible refine optm_var (fv_strL (by assumption) (by assumption)) (fun s hs => ?_)); conv => whnf)
            | ((with_reducible refine forceA_of ?_); conv => whnf)
            | ((with_reducible refine forceL_fw (by assumption) ?_); conv => whnf)
            | ((with_reducible refine forceL_rfw (by assumption) ?_); conv => whnf)
            | ((with_reducible refine forceL_fl (by assumption) ?_); conv => whnf)
            | ((with_reducible refine forceL_rfl (by assumption) ?_); conv => whnf)
            | fail)
          refine forceL_var (l' := u8s (L ++ List.replicate (capn - n) 0)) (by rw [s5, hnl]; simp [repl_u8]) (fun csn hcsn => ?_)
          conv => whnf
          repeat' (first
            | ((with_reducible refine needm_of ?_ ?_); (· first | (rw [hsl]; rfl) | (rw [h8l]; rfl)); conv => whnf)
            | ((with_reducible refine forceL_to (whole_of ?_) ?_); (· first | (rw [hsl]; rfl) | (rw [h8l]; rfl)); conv => whnf)
            | ((with_reducible refine forceL_to (store_all ?_) ?_); (· first | rfl | (rw [hsl, h8l])); conv => whnf)
            | rw [← hz8]
            | ((with_reducible refine regx_of ?_ ?_); (· decide +kernel); conv => whnf)
            | ((with_reducible refine growx_pre ?_ ?_); (· exact ⟨_, rfl⟩); conv => whnf)
            | ((with_reducible refine needm_of ?_ ?_); (· first | assumption | exact decide_eq_true (by omega) | decide +kernel | (refine decide_eq_true ?_; simp (disch := omega) only [i64w]; omega)); conv => whnf)
            | ((with_reducible refine condm_pos ?_ ?_); (· assumption); conv => whnf)
            | ((with_reducible refine condm_neg ?_ ?_); (· assumption); conv => whnf)
            | ((with_reducible refine forceL_fv (by assumption) ?_); conv => whnf)
            | ((with_reducible refine forceL_rfv (by assumption) ?_); conv => whnf)
            | ((with_reducible refine forceNm_of ?_); conv => whnf)
            | ((with_reducible refine needm_of (fv_lenL (by assumption) (by assumption)) ?_); conv => whnf)
            | ((with_reducible refine optm_var (fv_strL (by assumption) (by assumption)) (fun s hs => ?_)); conv => whnf)
            | ((with_reducible refine forceA_of ?_); conv => whnf)
            | ((with_reducible refine forceL_fw (by assumption) ?_); conv => whnf)
            | ((with_reducible refine forceL_rfw (by assumption) ?_); conv => whnf)
            | ((with_reducible refine forceL_fl (by assumption) ?_); conv => whnf)
            | ((with_reducible refine forceL_rfl (by assumption) ?_); conv => whnf)
            | fail)
          rw [Nat.zero_add n]
          refine Go.Eng.Fn.frame [3] (by simp [V.ren, (Flat.u32 hss).ren, A.ren, dsOf]) (by exact ⟨ren_fv hcsn _ _ _, trivial⟩) (by simp [nodupb, V.okb, A.okb, Ob.okb, all_fv hcsn, (Flat.u32 hss).all]) (block20 s ss hss csn L (List.replicate (capn - n) 0) n capn hcsn hL.symm (fun rs e hrs he => ?_))
          have hrl : rs.length = 8 := by rw [fw_len hrs]; unfold blkRow; split <;> rfl
          conv => whnf
          repeat' (first
            | ((with_reducible refine needm_of ?_ ?_); (· first | (rw [hrl]; rfl) | (rw [hrl, h8l]; rfl)); conv => whnf)
            | ((with_reducible refine forceL_to (whole_of ?_) ?_); (· (rw [hrl]; rfl)); conv => whnf)
            | ((with_reducible refine forceL_to (store_all ?_) ?_); (· (rw [hrl, h8l])); conv => whnf)
            | ((with_reducible refine needm_of ?_ ?_); (· first | (rw [hsl]; rfl) | (rw [h8l]; rfl)); conv => whnf)
            | ((with_reducible refine forceL_to (whole_of ?_) ?_); (· first | (rw [hsl]; rfl) | (rw [h8l]; rfl)); conv => whnf)
            | ((with_reducible refine forceL_to (store_all ?_) ?_); (· first | rfl | (rw [hsl, h8l])); conv => whnf)
            | rw [← hz8]
            | ((with_reducible refine regx_of ?_ ?_); (· decide +kernel); conv => whnf)
            | ((with_reducible refine growx_pre ?_ ?_); (· exact ⟨_, rfl⟩); conv => whnf)
            | ((with_reducible refine needm_of ?_ ?_); (· first | assumption | exact decide_eq_true (by omega) | decide +kernel | (refine decide_eq_true ?_; simp (disch := omega) only [i64w]; omega)); conv => whnf)
            | ((with_reducible refine condm_pos ?_ ?_); (· assumption); conv => whnf)
            | ((with_reducible refine condm_neg ?_ ?_); (· assumption); conv => whnf)
            | ((with_reducible refine forceL_fv (by assumption) ?_); conv => whnf)
            | ((with_reducible refine forceL_rfv (by assumption) ?_); conv => whnf)
            | ((with_reducible refine forceNm_of ?_); conv => whnf)
            | ((with_reducible refine needm_of (fv_lenL (by assumption) (by assumption)) ?_); conv => whnf)
            | ((with_reducible refine optm_var (fv_strL (by assumption) (by assumption)) (fun s hs => ?_)); conv => whnf)
            | ((with_reducible refine forceA_of ?_); conv => whnf)
            | ((with_reducible refine forceL_fw (by assumption) ?_); conv => whnf)
            | ((with_reducible refine forceL_rfw (by assumption) ?_); conv => whnf)
            | ((with_reducible refine forceL_fl (by assumption) ?_); conv => whnf)
            | ((with_reducible refine forceL_rfl (by assumption) ?_); conv => whnf)
            | fail)
          refine Go.Eng.Fn.frame [1] (by simp [V.ren, (Flat.u32 hss).ren, A.ren, dsOf]) (by exact ⟨ren_fv hcs _ _ _, trivial⟩) (by simp [nodupb, V.okb, A.okb, Ob.okb, all_fv hcs, (Flat.u32 hss).all]) (block21 s ss hss cs L (marks 66 ++ y) n cap hcs hL.symm (fun rs2 e2 hrs2 he2 => ?_))
          obtain rfl : rs2 = rs := hrs2.trans hrs.symm
          obtain rfl : e2 = e := he2.trans he.symm
          conv => whnf
          repeat' (first
            | ((with_reducible refine needm_of ?_ ?_); (· first | (rw [hrl]; rfl) | (rw [hrl, h8l]; rfl)); conv => whnf)
            | ((with_reducible refine forceL_to (whole_of ?_) ?_); (· (rw [hrl]; rfl)); conv => whnf)
            | ((with_reducible refine forceL_to (store_all ?_) ?_); (· (rw [hrl, h8l])); conv => whnf)
            | ((with_reducible refine needm_of ?_ ?_); (· first | (rw [hsl]; rfl) | (rw [h8l]; rfl)); conv => whnf)
            | ((with_reducible refine forceL_to (whole_of ?_) ?_); (· first | (rw [hsl]; rfl) | (rw [h8l]; rfl)); conv => whnf)
            | ((with_reducible refine forceL_to (store_all ?_) ?_); (· first | rfl | (rw [hsl, h8l])); conv => whnf)
            | rw [← hz8]
            | ((with_reducible refine regx_of ?_ ?_); (· decide +kernel); conv => whnf)
            | ((with_reducible refine growx_pre ?_ ?_); (· exact ⟨_, rfl⟩); conv => whnf)
            | ((with_reducible refine needm_of ?_ ?_); (· first | assumption | exact decide_eq_true (by omega) | decide +kernel | (refine decide_eq_true ?_; simp (disch := omega) only [i64w]; omega)); conv => whnf)
            | ((with_reducible refine condm_pos ?_ ?_); (· assumption); conv => whnf)
            | ((with_reducible refine condm_neg ?_ ?_); (· assumption); conv => whnf)
            | ((with_reducible refine forceL_fv (by assumption) ?_); conv => whnf)
            | ((with_reducible refine forceL_rfv (by assumption) ?_); conv => whnf)
            | ((with_reducible refine forceNm_of ?_); conv => whnf)
            | ((with_reducible refine needm_of (fv_lenL (by assumption) (by assumption)) ?_); conv => whnf)
            | ((with_reducible refine optm_var (fv_strL (by assumption) (by assumption)) (fun s hs => ?_)); conv => whnf)
            | ((with_reducible refine forceA_of ?_); conv => whnf)
            | ((with_reducible refine forceL_fw (by assumption) ?_); conv => whnf)
            | ((with_reducible refine forceL_rfw (by assumption) ?_); conv => whnf)
            | ((with_reducible refine forceL_fl (by assumption) ?_); conv => whnf)
            | ((with_reducible refine forceL_rfl (by assumption) ?_); conv => whnf)
            | (refine ⟨_, same33 hrs (by unfold blkRow; split <;> rfl), ?_⟩; conv => whnf)
            | ((with_reducible refine condm_neg ?_ ?_); (· simp); conv => whnf)
            | fail)
          refine Go.Eng.Fn.frame [1, 3] (by rfl) (by exact ⟨ren_fv hcs _ _ _, ren_fv hcsn _ _ _, trivial⟩) (by simp [nodupb, V.okb, A.okb, Ob.okb, all_fv hcs, all_fv hcsn] <;> decide) (kept22 L y (List.replicate (capn - n) 0) cs csn n cap capn hcs hcsn hL.symm hcap hn ?_)
          conv => whnf
          repeat' (first
            | ((with_reducible refine needm_of ?_ ?_); (· first | (rw [hrl]; rfl) | (rw [hrl, h8l]; rfl)); conv => whnf)
            | ((with_reducible refine forceL_to (whole_of ?_) ?_); (· (rw [hrl]; rfl)); conv => whnf)
            | ((with_reducible refine forceL_to (store_all ?_) ?_); (· (rw [hrl, h8l])); conv => whnf)
            | ((with_reducible refine needm_of ?_ ?_); (· first | (rw [hsl]; rfl) | (rw [h8l]; rfl)); conv => whnf)
            | ((with_reducible refine forceL_to (whole_of ?_) ?_); (· first | (rw [hsl]; rfl) | (rw [h8l]; rfl)); conv => whnf)
            | ((with_reducible refine forceL_to (store_all ?_) ?_); (· first | rfl | (rw [hsl, h8l])); conv => whnf)
            | rw [← hz8]
            | ((with_reducible refine regx_of ?_ ?_); (· decide +kernel); conv => whnf)
            | ((with_reducible refine growx_pre ?_ ?_); (· exact ⟨_, rfl⟩); conv => whnf)
            | ((with_reducible refine needm_of ?_ ?_); (· first | assumption | exact decide_eq_true (by omega) | decide +kernel | (refine decide_eq_true ?_; simp (disch := omega) only [i64w]; omega)); conv => whnf)
            | ((with_reducible refine condm_pos ?_ ?_); (· assumption); conv => whnf)
            | ((with_reducible refine condm_neg ?_ ?_); (· assumption); conv => whnf)
            | ((with_reducible refine forceL_fv (by assumption) ?_); conv => whnf)
            | ((with_reducible refine forceL_rfv (by assumption) ?_); conv => whnf)
            | ((with_reducible refine forceNm_of ?_); conv => whnf)
            | ((with_reducible refine needm_of (fv_lenL (by assumption) (by assumption)) ?_); conv => whnf)
            | ((with_reducible refine optm_var (fv_strL (by assumption) (by assumption)) (fun s hs => ?_)); conv => whnf)
            | ((with_reducible refine forceA_of ?_); conv => whnf)
            | ((with_reducible refine forceL_fw (by assumption) ?_); conv => whnf)
            | ((with_reducible refine forceL_rfw (by assumption) ?_); conv => whnf)
            | ((with_reducible refine forceL_fl (by assumption) ?_); conv => whnf)
            | ((with_reducible refine forceL_rfl (by assumption) ?_); conv => whnf)
            | ((with_reducible refine condm_neg ?_ ?_); (· simp); conv => whnf)
            | fail)
          refine loopx_of (fun m F H => ∃ (i : Nat) (L : List UInt8) (cs : List A), i ≤ n ∧ m = n - i ∧ L.length = n ∧ cs = u8s (L ++ (marks 66 ++ y)) ∧ F = [(2, .a (.ptr 0 0)), (5, .a (.slc 1 0 n cap)), (6, .a (.int .i64 t)), (12, .a (.int .i64 i))] ∧ H = [.cells ss 33 false, .cells cs 5 false]) n ?_ ?_
          · refine Into.weak [0, 1] _ _ ⟨0, L, cs, by omega, rfl, hL, hcs, rfl, rfl⟩ ⟨rfl, rfl, rfl, rfl, trivial⟩ ⟨ren_fw hss _ _ _, ren_fv hcs _ _ _, trivial⟩ ?_
            simp [nodupb, baseb, Ob.okb, frmOk, V.okb, A.okb, all_fv hcs, all_fw hss] <;> decide
          · clear hcs hL L cs hcsn hrs he hcl hnew hrs2 he2
            rintro m F H ⟨i, L, cs, hi, rfl, hL, hcs, rfl, rfl⟩
            conv => whnf
            refine condm_of (fun h => ?_) (fun h => ?_)
            · have hin : i < n := by have := of_decide_eq_true h; omega
              have e5 : IntKind.i64.wrap (↑i + 1) = ((i + 1 : Nat) : Int) := by rw [i64w (by omega) (by omega)]; rfl
              have hiL : i < (L ++ (marks 66 ++ y)).length := by rw [List.length_append]; omega
              have hg : cs[0 + (i : Int).toNat * Try.prog.types[5].size]? = some (.int .u8 (((L ++ (marks 66 ++ y))[i]'hiL).toNat : Int)) := by
                rw [s5, Int.toNat_natCast, Nat.mul_one, Nat.zero_add]
                exact fv_get hcs hiL
              obtain ⟨b, hb⟩ := xor8 ((L ++ (marks 66 ++ y))[i]'hiL) 129
              generalize ((L ++ (marks 66 ++ y))[i]'hiL).toNat = a at *
              conv => whnf
              repeat' (first
                | ((with_reducible refine optm_of hg ?_); conv => whnf)
                | ((with_reducible refine needm_of ?_ ?_); (· first | (rw [hsl]; rfl) | (rw [h8l]; rfl)); conv => whnf)
                | ((with_reducible refine forceL_to (whole_of ?_) ?_); (· first | (rw [hsl]; rfl) | (rw [h8l]; rfl)); conv => whnf)
                | ((with_reducible refine forceL_to (store_all ?_) ?_); (· first | rfl | (rw [hsl, h8l])); conv => whnf)
                | rw [← hz8]
                | ((with_reducible refine regx_of ?_ ?_); (· decide +kernel); conv => whnf)
                | ((with_reducible refine growx_pre ?_ ?_); (· exact ⟨_, rfl⟩); conv => whnf)
                | ((with_reducible refine needm_of ?_ ?_); (· first | assumption | exact decide_eq_true (by omega) | decide +kernel | (refine decide_eq_true ?_; simp (disch := omega) only [i64w]; omega)); conv => whnf)
                | ((with_reducible refine condm_pos ?_ ?_); (· assumption); conv => whnf)
                | ((with_reducible refine condm_neg ?_ ?_); (· assumption); conv => whnf)
                | ((with_reducible refine forceL_fv (by assumption) ?_); conv => whnf)
                | ((with_reducible refine forceL_rfv (by assumption) ?_); conv => whnf)
                | ((with_reducible refine forceNm_of ?_); conv => whnf)
                | ((with_reducible refine needm_of (fv_lenL (by assumption) (by assumption)) ?_); conv => whnf)
                | ((with_reducible refine optm_var (fv_strL (by assumption) (by assumption)) (fun s hs => ?_)); conv => whnf)
                | ((with_reducible refine forceA_of ?_); conv => whnf)
                | ((with_reducible refine forceL_fw (by assumption) ?_); conv => whnf)
                | ((with_reducible refine forceL_rfw (by assumption) ?_); conv => whnf)
                | ((with_reducible refine forceL_fl (by assumption) ?_); conv => whnf)
                | ((with_reducible refine forceL_rfl (by assumption) ?_); conv => whnf)
                | fail)
              rw [hb]
              refine needm_of (by rw [u8s_len hcs, s5, List.length_append]; simp; omega) ?_
              conv => whnf
              repeat' (first
                | ((with_reducible refine needm_of ?_ ?_); (· first | (rw [hsl]; rfl) | (rw [h8l]; rfl)); conv => whnf)
                | ((with_reducible refine forceL_to (whole_of ?_) ?_); (· first | (rw [hsl]; rfl) | (rw [h8l]; rfl)); conv => whnf)
                | ((with_reducible refine forceL_to (store_all ?_) ?_); (· first | rfl | (rw [hsl, h8l])); conv => whnf)
                | rw [← hz8]
                | ((with_reducible refine regx_of ?_ ?_); (· decide +kernel); conv => whnf)
                | ((with_reducible refine growx_pre ?_ ?_); (· exact ⟨_, rfl⟩); conv => whnf)
                | ((with_reducible refine needm_of ?_ ?_); (· first | assumption | exact decide_eq_true (by omega) | decide +kernel | (refine decide_eq_true ?_; simp (disch := omega) only [i64w]; omega)); conv => whnf)
                | ((with_reducible refine condm_pos ?_ ?_); (· assumption); conv => whnf)
                | ((with_reducible refine condm_neg ?_ ?_); (· assumption); conv => whnf)
                | ((with_reducible refine forceL_fv (by assumption) ?_); conv => whnf)
                | ((with_reducible refine forceL_rfv (by assumption) ?_); conv => whnf)
                | ((with_reducible refine forceNm_of ?_); conv => whnf)
                | ((with_reducible refine needm_of (fv_lenL (by assumption) (by assumption)) ?_); conv => whnf)
                | ((with_reducible refine optm_var (fv_strL (by assumption) (by assumption)) (fun s hs => ?_)); conv => whnf)
                | ((with_reducible refine forceA_of ?_); conv => whnf)
                | ((with_reducible refine forceL_fw (by assumption) ?_); conv => whnf)
                | ((with_reducible refine forceL_rfw (by assumption) ?_); conv => whnf)
                | ((with_reducible refine forceL_fl (by assumption) ?_); conv => whnf)
                | ((with_reducible refine forceL_rfl (by assumption) ?_); conv => whnf)
                | fail)
              refine forceL_var (fv_set hcs rfl) (fun cs' hcs' => ?_)
              conv => whnf
              repeat' (first
                | ((with_reducible refine needm_of ?_ ?_); (· first | (rw [hsl]; rfl) | (rw [h8l]; rfl)); conv => whnf)
                | ((with_reducible refine forceL_to (whole_of ?_) ?_); (· first | (rw [hsl]; rfl) | (rw [h8l]; rfl)); conv => whnf)
                | ((with_reducible refine forceL_to (store_all ?_) ?_); (· first | rfl | (rw [hsl, h8l])); conv => whnf)
                | rw [← hz8]
                | ((with_reducible refine regx_of ?_ ?_); (· decide +kernel); conv => whnf)
                | ((with_reducible refine growx_pre ?_ ?_); (· exact ⟨_, rfl⟩); conv => whnf)
                | ((with_reducible refine needm_of ?_ ?_); (· first | assumption | exact decide_eq_true (by omega) | decide +kernel | (refine decide_eq_true ?_; simp (disch := omega) only [i64w]; omega)); conv => whnf)
                | ((with_reducible refine condm_pos ?_ ?_); (· assumption); conv => whnf)
                | ((with_reducible refine condm_neg ?_ ?_); (· assumption); conv => whnf)
                | ((with_reducible refine forceL_fv (by assumption) ?_); conv => whnf)
                | ((with_reducible refine forceL_rfv (by assumption) ?_); conv => whnf)
                | ((with_reducible refine forceNm_of ?_); conv => whnf)
                | ((with_reducible refine needm_of (fv_lenL (by assumption) (by assumption)) ?_); conv => whnf)
                | ((with_reducible refine optm_var (fv_strL (by assumption) (by assumption)) (fun s hs => ?_)); conv => whnf)
                | ((with_reducible refine forceA_of ?_); conv => whnf)
                | ((with_reducible refine forceL_fw (by assumption) ?_); conv => whnf)
                | ((with_reducible refine forceL_rfw (by assumption) ?_); conv => whnf)
                | ((with_reducible refine forceL_fl (by assumption) ?_); conv => whnf)
                | ((with_reducible refine forceL_rfl (by assumption) ?_); conv => whnf)
                | fail)
              rw [s5, Nat.zero_add, Nat.mul_one, Int.toNat_natCast, List.set_append_left _ _ (by omega)] at hcs'
              refine ⟨n - (i + 1), by omega, Into.weak [0, 1] _ _ ⟨i + 1, _, cs', by omega, rfl, by rw [List.length_set]; exact hL, hcs', rfl, rfl⟩ ⟨rfl, rfl, rfl, congrArg (fun z => some (V.a (.int .i64 z))) e5, trivial⟩ ⟨ren_fw hss _ _ _, ren_fv hcs' _ _ _, trivial⟩ ?_⟩
              simp [nodupb, baseb, Ob.okb, frmOk, V.okb, A.okb, all_fv hcs', all_fw hss] <;> decide
            · conv => whnf
              refine ⟨2 - (t + 1), by omega, Into.weak [0, 1] _ _ ⟨t + 1, L, cs, by omega, rfl, hL, hcs, rfl, rfl⟩ ⟨rfl, rfl, congrArg (fun z => some (V.a (.int .i64 z))) e4, trivial⟩ ⟨ren_fw hss _ _ _, ren_fv hcs _ _ _, trivial⟩ ?_⟩
              simp [nodupb, baseb, Ob.okb, frmOk, V.okb, A.okb, all_fv hcs, all_fw hss] <;> decide
      · conv => whnf
        refine Go.Eng.Fn.frame [] (by rfl) (by exact trivial) (by rfl) (start23 (fun ks hks => ?_))
        subst hks
        conv => whnf
        repeat' (first
          | ((with_reducible refine needm_of ?_ ?_); (· first | (rw [hsl]; rfl) | (rw [h8l]; rfl)); conv => whnf)
          | ((with_reducible refine forceL_to (whole_of ?_) ?_); (· first | (rw [hsl]; rfl) | (rw [h8l]; rfl)); conv => whnf)
          | ((with_reducible refine forceL_to (store_all ?_) ?_); (· first | rfl | (rw [hsl, h8l])); conv => whnf)
          | rw [← hz8]
          | ((with_reducible refine regx_of ?_ ?_); (· decide +kernel); conv => whnf)
          | ((with_reducible refine growx_pre ?_ ?_); (· exact ⟨_, rfl⟩); conv => whnf)
          | ((with_reducible refine needm_of ?_ ?_); (· first | assumption | exact decide_eq_true (by omega) | decide +kernel | (refine decide_eq_true ?_; simp (disch := omega) only [i64w]; omega)); conv => whnf)
          | ((with_reducible refine condm_pos ?_ ?_); (· assumption); conv => whnf)
          | ((with_reducible refine condm_neg ?_ ?_); (· assumption); conv => whnf)
          | ((with_reducible refine forceL_fv (by assumption) ?_); conv => whnf)
          | ((with_reducible refine forceL_rfv (by assumption) ?_); conv => whnf)
          | ((with_reducible refine forceNm_of ?_); conv => whnf)
          | ((with_reducible refine needm_of (fv_lenL (by assumption) (by assumption)) ?_); conv => whnf)
          | ((with_reducible refine optm_var (fv_strL (by assumption) (by assumption)) (fun s hs => ?_)); conv => whnf)
          | ((with_reducible refine forceA_of ?_); conv => whnf)
          | ((with_reducible refine forceL_fw (by assumption) ?_); conv => whnf)
          | ((with_reducible refine forceL_rfw (by assumption) ?_); conv => whnf)
          | ((with_reducible refine forceL_fl (by assumption) ?_); conv => whnf)
          | ((with_reducible refine forceL_rfl (by assumption) ?_); conv => whnf)
          | fail)
        refine Go.Eng.Fn.frame [] (by rfl) (by exact trivial) (by rfl) (start24 (fun ks hks => ?_))
        subst hks
        conv => whnf
        repeat' (first
          | ((with_reducible refine needm_of ?_ ?_); (· first | (rw [hsl]; rfl) | (rw [h8l]; rfl)); conv => whnf)
          | ((with_reducible refine forceL_to (whole_of ?_) ?_); (· first | (rw [hsl]; rfl) | (rw [h8l]; rfl)); conv => whnf)
          | ((with_reducible refine forceL_to (store_all ?_) ?_); (· first | rfl | (rw [hsl, h8l])); conv => whnf)
          | rw [← hz8]
          | ((with_reducible refine regx_of ?_ ?_); (· decide +kernel); conv => whnf)
          | ((with_reducible refine growx_pre ?_ ?_); (· exact ⟨_, rfl⟩); conv => whnf)
          | ((with_reducible refine needm_of ?_ ?_); (· first | assumption | exact decide_eq_true (by omega) | decide +kernel | (refine decide_eq_true ?_; simp (disch := omega) only [i64w]; omega)); conv => whnf)
          | ((with_reducible refine condm_pos ?_ ?_); (· assumption); conv => whnf)
          | ((with_reducible refine condm_neg ?_ ?_); (· assumption); conv => whnf)
          | ((with_reducible refine forceL_fv (by assumption) ?_); conv => whnf)
          | ((with_reducible refine forceL_rfv (by assumption) ?_); conv => whnf)
          | ((with_reducible refine forceNm_of ?_); conv => whnf)
          | ((with_reducible refine needm_of (fv_lenL (by assumption) (by assumption)) ?_); conv => whnf)
          | ((with_reducible refine optm_var (fv_strL (by assumption) (by assumption)) (fun s hs => ?_)); conv => whnf)
          | ((with_reducible refine forceA_of ?_); conv => whnf)
          | ((with_reducible refine forceL_fw (by assumption) ?_); conv => whnf)
          | ((with_reducible refine forceL_rfw (by assumption) ?_); conv => whnf)
          | ((with_reducible refine forceL_fl (by assumption) ?_); conv => whnf)
          | ((with_reducible refine forceL_rfl (by assumption) ?_); conv => whnf)
          | (refine ⟨_, EqAgg.of rfl, ?_⟩; conv => whnf)
          | fail)
        rfl
end
def K8 : List Sc := [.int .u32, .int .u32, .int .u32, .int .u32, .int .u32, .int .u32, .int .u32, .int .u32]
def KB : List Sc := [.int .u8]
theorem toU32 {n : Int} (h : IntKind.u32.min ≤ n ∧ n ≤ IntKind.u32.max) : ∃ x : UInt32, n = (x.toNat : Int) := by
  have h0 : (0 : Int) ≤ n := h.1
  have h1 : n ≤ (4294967295 : Int) := h.2
  refine ⟨UInt32.ofNat n.toNat, ?_⟩
  rw [UInt32.toNat_ofNat']
  omega
theorem toU8 {n : Int} (h : IntKind.u8.min ≤ n ∧ n ≤ IntKind.u8.max) : n = ((UInt8.ofNat n.toNat).toNat : Int) := by
  have h0 : (0 : Int) ≤ n := h.1
  have h1 : n ≤ (255 : Int) := h.2
  rw [UInt8.toNat_ofNat']
  omega
theorem fits8 {xs : List A} (h : Fits K8 xs) : ∃ s : St, xs = u32s s.row := by
  obtain ⟨a, _, rfl, ha, h⟩ := Fits.int h
  obtain ⟨b, _, rfl, hb, h⟩ := Fits.int h
  obtain ⟨c, _, rfl, hc, h⟩ := Fits.int h
  obtain ⟨d, _, rfl, hd, h⟩ := Fits.int h
  obtain ⟨e, _, rfl, he, h⟩ := Fits.int h
  obtain ⟨f, _, rfl, hf, h⟩ := Fits.int h
  obtain ⟨g, _, rfl, hg, h⟩ := Fits.int h
  obtain ⟨k, _, rfl, hk, h⟩ := Fits.int h
  obtain rfl := Fits.nil h
  obtain ⟨a, rfl⟩ := toU32 ha
  obtain ⟨b, rfl⟩ := toU32 hb
  obtain ⟨c, rfl⟩ := toU32 hc
  obtain ⟨d, rfl⟩ := toU32 hd
  obtain ⟨e, rfl⟩ := toU32 he
  obtain ⟨f, rfl⟩ := toU32 hf
  obtain ⟨g, rfl⟩ := toU32 hg
  obtain ⟨k, rfl⟩ := toU32 hk
  exact ⟨⟨a, b, c, d, e, f, g, k⟩, by unfold u32s; rfl⟩
def byteOf : List A → UInt8
  | .int .u8 n :: _ => UInt8.ofNat n.toNat
  | _ => 0
theorem src_of {W : World} {y : A} {len cap : Nat} {G : Nat → List A} (h : IsSl W 1 KB y len cap G) : ∃ L : List UInt8, Src (roOf W) y L ∧ L.length = len := by
  have h0 := h
  rcases h with ⟨rfl, rfl, _⟩ | ⟨p, rfl, hl, _, _⟩
  · exact ⟨[], .inl ⟨rfl, rfl⟩, rfl⟩
  · refine ⟨(List.range len).map fun i => byteOf (G i), .inr ⟨p, cap, by simp, fun j y hj => ?_⟩, by simp⟩
    have hjl : j < len := by
      have := (List.getElem?_eq_some_iff.1 hj).1
      simpa using this
    obtain ⟨hf, hr⟩ := h0.get hjl
    rw [u8s_get (by simpa using hjl)] at hj
    injection hj with hj
    obtain ⟨n, ys, e, hn, hf⟩ := Fits.int hf
    have := hr 0 (.int .u8 n) (by rw [e]; rfl)
    rw [Nat.mul_one, Nat.add_zero] at this
    rw [← hj]
    simp only [List.getElem_map, List.getElem_range, e, byteOf]
    rw [← toU8 hn]
    exact this
theorem top5 (W : World) (xs : List A) (hxs : Fits K8 xs) (y : A) (len cap : Nat) (G : Nat → List A) (hG : IsSl W 1 KB y len cap G) (hb : cap * 1 ≤ 140737488351232) :
    Go.Eng.Fn Try.prog (roOf W) 5 [.g xs, .a y] [] (fun v _ => v = .a (.bool true)) := by
  obtain ⟨s, hs⟩ := fits8 hxs
  obtain ⟨L, hL, hlen⟩ := src_of hG
  have hle : len ≤ cap := by rcases hG with ⟨_, rfl, rfl⟩ | ⟨_, _, h, _⟩ <;> omega
  exact blocks5 s xs hs y L hL (by omega)
end Go.Proofs.Ytglbldhineggaaa.DG
