import Derived.Test.YtglbldhineggaaaDF
namespace Go.Proofs.Ytglbldhineggaaa.DG
open Go.Eng
set_option maxRecDepth 100000
section
variable {ro : Addr → A → Prop}
theorem app_any {cs : List A} {L : List UInt8} {v : Int} {n S : Nat} (hcs : cs = u8s L) (hS : S = 1) {b : UInt8} (hv : v = b.toNat) :
    ∃ M : List UInt8, M.length = L.length ∧ storeL cs (0 + n * S) (List.drop 0 (List.take (0 + 1 * S) [.int .u8 v])) = u8s M := by
  subst hS hcs hv
  simp only [Nat.zero_add, Nat.mul_one, List.take_succ_cons, List.take_zero, List.drop_zero]
  exact ⟨_, by simp, storeL_one _ _ _⟩
theorem app_anew {cs : List A} {L : List UInt8} {v : Int} {n S c : Nat} {z : A} (hcs : cs = u8s L) (hn : n ≤ L.length) (hS : S = 1) (hz : z = .int .u8 0) (hc : n + 1 ≤ c) {b : UInt8} (hv : v = b.toNat) :
    ∃ M : List UInt8, M.length = c ∧ List.drop 0 (List.take (0 + n * S) cs) ++ List.drop 0 (List.take (0 + 1 * S) [.int .u8 v]) ++ repl [z] ((c - (n + 1)) * S) = u8s M := by
  subst hS hcs hz hv
  refine ⟨L.take n ++ [b] ++ List.replicate (c - (n + 1)) 0, by simp; omega, ?_⟩
  simp only [Nat.zero_add, Nat.mul_one, List.take_succ_cons, List.take_zero, List.drop_zero, repl_u8, u8s_take]
  simp
set_option maxHeartbeats 0 in
theorem spoil14 (cs : List A) (L : List UInt8) (len cap : Nat) (hcs : cs = u8s L) (hlen : len ≤ cap) (hcap : cap = L.length) (hbig : len + 66 ≤ 140737488355328) {K : V → Hp → Prop} (hk : ∀ cs' L', cs' = u8s L' → L'.length = cap → K (.t []) [.cells cs' 5 false]) :
    Go.Eng.Fn Try.prog ro 14 [.a (.slc 0 0 len cap)] [.cells cs 5 false] K := by
  refine Go.Eng.Fn.weak ?_
  refine Go.Eng.Fn.of 1 (gOf []) rfl Try.func14 rfl (Nat.le_of_ble_eq_true rfl) ?_
  conv => whnf
  repeat' (first
    | ((with_reducible refine regx_of ?_ ?_); (· decide +kernel); conv => whnf)
    | ((with_reducible refine growx_pre ?_ ?_); (· exact ⟨_, rfl⟩); conv => whnf)
    | ((with_reducible refine needm_of ?_ ?_); (· first | assumption | exact decide_eq_true (by omega) | exact mkOK_of (by decide) | decide +kernel | (refine decide_eq_true ?_; simp (disch := omega) only [i64w]; omega)); conv => whnf)
    | ((with_reducible refine condm_pos ?_ ?_); (· assumption); conv => whnf)
    | ((with_reducible refine condm_neg ?_ ?_); (· assumption); conv => whnf)
    | ((with_reducible refine forceL_fv (by assumption) ?_); conv => whnf)
    | ((with_reducible refine forceL_rfv (by assumption) ?_); conv => whnf)
    | ((with_reducible refine forceNm_of ?_); conv => whnf)
    | ((with_reducible refine needm_of (fv_lenL (by assumption) (by assumption)) ?_); conv => whnf)
    | ((with_reducible refine optm_var (fv_strL (by assumption) (by assumption)) (fun s hs => ?_)); conv => whnf)
    | ((with_reducible refine forceA_of ?_); conv => whnf)
    | fail)
  refine loopx_of (fun m F H => ∃ (i : Nat) (cs : List A) (L : List UInt8), i ≤ len ∧ m = len - i ∧ cs = u8s L ∧ cap = L.length ∧ F = [(0, .a (.slc 0 0 len cap)), (2, .a (.int .i64 i))] ∧ H = [.cells cs 5 false]) len ?_ ?_
  · refine Into.weak [0] _ _ ⟨0, cs, L, by omega, rfl, hcs, hcap, rfl, rfl⟩ ⟨rfl, rfl, trivial⟩ ⟨ren_fv hcs _ _ _, trivial⟩ ?_
    simp [nodupb, baseb, Ob.okb, frmOk, V.okb, A.okb, all_fv hcs] <;> decide
  · clear hcs hcap L
    rintro m F H ⟨i, cs, L, hi, rfl, hcs, hcap, rfl, rfl⟩
    conv => whnf
    refine condm_of (fun h => ?_) (fun h => ?_)
    · have hil : i < len := by have := of_decide_eq_true h; omega
      have e4 : IntKind.i64.wrap (↑i + 1) = ((i + 1 : Nat) : Int) := by rw [i64w (by omega) (by omega)]; rfl
      conv => whnf
      repeat' (first
        | ((with_reducible refine regx_of ?_ ?_); (· decide +kernel); conv => whnf)
        | ((with_reducible refine growx_pre ?_ ?_); (· exact ⟨_, rfl⟩); conv => whnf)
        | ((with_reducible refine needm_of ?_ ?_); (· first | assumption | exact decide_eq_true (by omega) | exact mkOK_of (by decide) | decide +kernel | (refine decide_eq_true ?_; simp (disch := omega) only [i64w]; omega)); conv => whnf)
        | ((with_reducible refine condm_pos ?_ ?_); (· assumption); conv => whnf)
        | ((with_reducible refine condm_neg ?_ ?_); (· assumption); conv => whnf)
        | ((with_reducible refine forceL_fv (by assumption) ?_); conv => whnf)
        | ((with_reducible refine forceL_rfv (by assumption) ?_); conv => whnf)
        | ((with_reducible refine forceNm_of ?_); conv => whnf)
        | ((with_reducible refine needm_of (fv_lenL (by assumption) (by assumption)) ?_); conv => whnf)
        | ((with_reducible refine optm_var (fv_strL (by assumption) (by assumption)) (fun s hs => ?_)); conv => whnf)
        | ((with_reducible refine forceA_of ?_); conv => whnf)
        | fail)
      have hg : cs[0 + (↑i : Int).toNat * Try.prog.types[5].size]? = some (.int .u8 ((L[i]'(by omega)).toNat : Int)) := by
        rw [s5, Int.toNat_natCast, Nat.mul_one, Nat.zero_add]
        exact fv_get hcs (by omega)
      refine optm_of hg ?_
      conv => whnf
      obtain ⟨b, hb⟩ := xor8 (L[i]'(by omega)) 85
      generalize (L[i]'(by omega)).toNat = a at *
      repeat' (first
        | ((with_reducible refine regx_of ?_ ?_); (· decide +kernel); conv => whnf)
        | ((with_reducible refine growx_pre ?_ ?_); (· exact ⟨_, rfl⟩); conv => whnf)
        | ((with_reducible refine needm_of ?_ ?_); (· first | assumption | exact decide_eq_true (by omega) | exact mkOK_of (by decide) | decide +kernel | (refine decide_eq_true ?_; simp (disch := omega) only [i64w]; omega)); conv => whnf)
        | ((with_reducible refine condm_pos ?_ ?_); (· assumption); conv => whnf)
        | ((with_reducible refine condm_neg ?_ ?_); (· assumption); conv => whnf)
        | ((with_reducible refine forceL_fv (by assumption) ?_); conv => whnf)
        | ((with_reducible refine forceL_rfv (by assumption) ?_); conv => whnf)
        | ((with_reducible refine forceNm_of ?_); conv => whnf)
        | ((with_reducible refine needm_of (fv_lenL (by assumption) (by assumption)) ?_); conv => whnf)
        | ((with_reducible refine optm_var (fv_strL (by assumption) (by assumption)) (fun s hs => ?_)); conv => whnf)
        | ((with_reducible refine forceA_of ?_); conv => whnf)
        | fail)
      generalize bitx .xor .u8 (a : Int) 85 = v at *
      refine needm_of (by rw [fv_len hcs, s5]; simp; omega) ?_
      conv => whnf
      refine forceL_var (fv_set hcs hb) (fun cs' hcs' => ?_)
      repeat' (first
        | ((with_reducible refine regx_of ?_ ?_); (· decide +kernel); conv => whnf)
        | ((with_reducible refine growx_pre ?_ ?_); (· exact ⟨_, rfl⟩); conv => whnf)
        | ((with_reducible refine needm_of ?_ ?_); (· first | assumption | exact decide_eq_true (by omega) | exact mkOK_of (by decide) | decide +kernel | (refine decide_eq_true ?_; simp (disch := omega) only [i64w]; omega)); conv => whnf)
        | ((with_reducible refine condm_pos ?_ ?_); (· assumption); conv => whnf)
        | ((with_reducible refine condm_neg ?_ ?_); (· assumption); conv => whnf)
        | ((with_reducible refine forceL_fv (by assumption) ?_); conv => whnf)
        | ((with_reducible refine forceL_rfv (by assumption) ?_); conv => whnf)
        | ((with_reducible refine forceNm_of ?_); conv => whnf)
        | ((with_reducible refine needm_of (fv_lenL (by assumption) (by assumption)) ?_); conv => whnf)
        | ((with_reducible refine optm_var (fv_strL (by assumption) (by assumption)) (fun s hs => ?_)); conv => whnf)
        | ((with_reducible refine forceA_of ?_); conv => whnf)
        | fail)
      refine ⟨len - (i + 1), by omega, Into.weak [0] _ _ ⟨i + 1, cs', _, by omega, rfl, hcs', by rw [List.length_set]; exact hcap, rfl, rfl⟩ ⟨rfl, congrArg (fun z => some (V.a (.int .i64 z))) e4, trivial⟩ ⟨ren_fv hcs' _ _ _, trivial⟩ ?_⟩
      simp [nodupb, baseb, Ob.okb, frmOk, V.okb, A.okb, all_fv hcs'] <;> decide
    · clear h hi
      conv => whnf
      refine loopx_of (fun m F H => ∃ (j : Nat) (cs cs₁ : List A) (L L₁ : List UInt8) (cap' : Nat), j ≤ 66 ∧ m = 66 - j ∧ cs = u8s L ∧ cap = L.length ∧ len + j ≤ cap' ∧
        ((cap' = cap ∧ F = [(0, .a (.slc 0 0 (len + j) cap')), (3, .a (.int .i64 j))] ∧ H = [.cells cs 5 false]) ∨
         (cs₁ = u8s L₁ ∧ cap' = L₁.length ∧ F = [(0, .a (.slc 1 0 (len + j) cap')), (3, .a (.int .i64 j))] ∧ H = [.cells cs 5 false, .cells cs₁ 5 false]))) 66 ?_ ?_
      · refine Into.weak [0] _ _ ⟨0, cs, [], L, [], cap, by omega, rfl, hcs, hcap, by omega, .inl ⟨rfl, rfl, rfl⟩⟩ ⟨rfl, rfl, trivial⟩ ⟨ren_fv hcs _ _ _, trivial⟩ ?_
        simp [nodupb, baseb, Ob.okb, frmOk, V.okb, A.okb, all_fv hcs] <;> decide
      · clear hcs hcap L cs
        rintro m F H ⟨j, cs, cs₁, L, L₁, cap', hj, rfl, hcs, hcap, hjc, ⟨rfl, rfl, rfl⟩ | ⟨hcs₁, hcap', rfl, rfl⟩⟩
        · conv => whnf
          refine condm_of (fun h => ?_) (fun h => ?_)
          · have hj66 : j < 66 := by have := of_decide_eq_true h; omega
            have e4 : IntKind.i64.wrap (↑j + 1) = ((j + 1 : Nat) : Int) := by rw [i64w (by omega) (by omega)]; rfl
            have e5 : IntKind.u8.wrap (IntKind.i64.wrap (7 + ↑j)) = ((b8 (IntKind.i64.wrap (7 + ↑j))).toNat : Int) := wrap8 _
            generalize b8 (IntKind.i64.wrap (7 + ↑j)) = b at *
            conv => whnf
            generalize IntKind.u8.wrap (IntKind.i64.wrap (7 + ↑j)) = v at *
            repeat' (first
              | ((with_reducible refine regx_of ?_ ?_); (· decide +kernel); conv => whnf)
              | ((with_reducible refine growx_pre ?_ ?_); (· exact ⟨_, rfl⟩); conv => whnf)
              | ((with_reducible refine needm_of ?_ ?_); (· first | assumption | exact decide_eq_true (by omega) | exact mkOK_of (by decide) | decide +kernel | (refine decide_eq_true ?_; simp (disch := omega) only [i64w]; omega)); conv => whnf)
              | ((with_reducible refine condm_pos ?_ ?_); (· assumption); conv => whnf)
              | ((with_reducible refine condm_neg ?_ ?_); (· assumption); conv => whnf)
              | ((with_reducible refine forceL_fv (by assumption) ?_); conv => whnf)
              | ((with_reducible refine forceL_rfv (by assumption) ?_); conv => whnf)
              | ((with_reducible refine forceNm_of ?_); conv => whnf)
              | ((with_reducible refine needm_of (fv_lenL (by assumption) (by assumption)) ?_); conv => whnf)
              | ((with_reducible refine optm_var (fv_strL (by assumption) (by assumption)) (fun s hs => ?_)); conv => whnf)
              | ((with_reducible refine forceA_of ?_); conv => whnf)
              | fail)
            refine condm_of (fun hc => ?_) (fun hc => ?_)
            · have hc' := of_decide_eq_true hc
              refine needm_of (decide_eq_true (by rw [s5, fv_len hcs]; simp only [List.length_drop, List.length_take, List.length_cons, List.length_nil]; omega)) ?_
              conv => whnf
              repeat' (first
                | ((with_reducible refine regx_of ?_ ?_); (· decide +kernel); conv => whnf)
                | ((with_reducible refine growx_pre ?_ ?_); (· exact ⟨_, rfl⟩); conv => whnf)
                | ((with_reducible refine needm_of ?_ ?_); (· first | assumption | exact decide_eq_true (by omega) | exact mkOK_of (by decide) | decide +kernel | (refine decide_eq_true ?_; simp (disch := omega) only [i64w]; omega)); conv => whnf)
                | ((with_reducible refine condm_pos ?_ ?_); (· assumption); conv => whnf)
                | ((with_reducible refine condm_neg ?_ ?_); (· assumption); conv => whnf)
                | ((with_reducible refine forceL_fv (by assumption) ?_); conv => whnf)
                | ((with_reducible refine forceL_rfv (by assumption) ?_); conv => whnf)
                | ((with_reducible refine forceNm_of ?_); conv => whnf)
                | ((with_reducible refine needm_of (fv_lenL (by assumption) (by assumption)) ?_); conv => whnf)
                | ((with_reducible refine optm_var (fv_strL (by assumption) (by assumption)) (fun s hs => ?_)); conv => whnf)
                | ((with_reducible refine forceA_of ?_); conv => whnf)
                | fail)
              obtain ⟨M, hM, hE⟩ := app_any (n := len + j) (S := Try.prog.types[5].size) hcs s5 e5
              refine forceL_var hE (fun cs' hcs' => ?_)
              repeat' (first
                | ((with_reducible refine regx_of ?_ ?_); (· decide +kernel); conv => whnf)
                | ((with_reducible refine growx_pre ?_ ?_); (· exact ⟨_, rfl⟩); conv => whnf)
                | ((with_reducible refine needm_of ?_ ?_); (· first | assumption | exact decide_eq_true (by omega) | exact mkOK_of (by decide) | decide +kernel | (refine decide_eq_true ?_; simp (disch := omega) only [i64w]; omega)); conv => whnf)
                | ((with_reducible refine condm_pos ?_ ?_); (· assumption); conv => whnf)
                | ((with_reducible refine condm_neg ?_ ?_); (· assumption); conv => whnf)
                | ((with_reducible refine forceL_fv (by assumption) ?_); conv => whnf)
                | ((with_reducible refine forceL_rfv (by assumption) ?_); conv => whnf)
                | ((with_reducible refine forceNm_of ?_); conv => whnf)
                | ((with_reducible refine needm_of (fv_lenL (by assumption) (by assumption)) ?_); conv => whnf)
                | ((with_reducible refine optm_var (fv_strL (by assumption) (by assumption)) (fun s hs => ?_)); conv => whnf)
                | ((with_reducible refine forceA_of ?_); conv => whnf)
                | fail)
              refine ⟨66 - (j + 1), by omega, Into.weak [0] _ _ ⟨j + 1, cs', [], M, [], cap', by omega, rfl, hcs', by rw [hM]; exact hcap, by omega, .inl ⟨rfl, rfl, rfl⟩⟩ ⟨rfl, congrArg (fun z => some (V.a (.int .i64 z))) e4, trivial⟩ ⟨ren_fv hcs' _ _ _, trivial⟩ ?_⟩
              simp [nodupb, baseb, Ob.okb, frmOk, V.okb, A.okb, all_fv hcs'] <;> decide
            · have hc' := of_decide_eq_false hc
              conv => whnf
              refine needm_of (decide_eq_true (by rw [s5, fv_len hcs]; exact ⟨by omega, by show (_ : Nat) * 1 ≤ _; omega, by omega⟩)) ?_
              intro cap₂ hcap₂
              conv => whnf
              repeat' (first
                | ((with_reducible refine regx_of ?_ ?_); (· decide +kernel); conv => whnf)
                | ((with_reducible refine growx_pre ?_ ?_); (· exact ⟨_, rfl⟩); conv => whnf)
                | ((with_reducible refine needm_of ?_ ?_); (· first | assumption | exact decide_eq_true (by omega) | exact mkOK_of (by decide) | decide +kernel | (refine decide_eq_true ?_; simp (disch := omega) only [i64w]; omega)); conv => whnf)
                | ((with_reducible refine condm_pos ?_ ?_); (· assumption); conv => whnf)
                | ((with_reducible refine condm_neg ?_ ?_); (· assumption); conv => whnf)
                | ((with_reducible refine forceL_fv (by assumption) ?_); conv => whnf)
                | ((with_reducible refine forceL_rfv (by assumption) ?_); conv => whnf)
                | ((with_reducible refine forceNm_of ?_); conv => whnf)
                | ((with_reducible refine needm_of (fv_lenL (by assumption) (by assumption)) ?_); conv => whnf)
                | ((with_reducible refine optm_var (fv_strL (by assumption) (by assumption)) (fun s hs => ?_)); conv => whnf)
                | ((with_reducible refine forceA_of ?_); conv => whnf)
                | fail)
              obtain ⟨M, hM, hE⟩ := app_anew (n := len + j) (S := Try.prog.types[5].size) hcs (by omega) s5 rfl hcap₂ e5
              refine forceL_var hE (fun cs' hcs' => ?_)
              repeat' (first
                | ((with_reducible refine regx_of ?_ ?_); (· decide +kernel); conv => whnf)
                | ((with_reducible refine growx_pre ?_ ?_); (· exact ⟨_, rfl⟩); conv => whnf)
                | ((with_reducible refine needm_of ?_ ?_); (· first | assumption | exact decide_eq_true (by omega) | exact mkOK_of (by decide) | decide +kernel | (refine decide_eq_true ?_; simp (disch := omega) only [i64w]; omega)); conv => whnf)
                | ((with_reducible refine condm_pos ?_ ?_); (· assumption); conv => whnf)
                | ((with_reducible refine condm_neg ?_ ?_); (· assumption); conv => whnf)
                | ((with_reducible refine forceL_fv (by assumption) ?_); conv => whnf)
                | ((with_reducible refine forceL_rfv (by assumption) ?_); conv => whnf)
                | ((with_reducible refine forceNm_of ?_); conv => whnf)
                | ((with_reducible refine needm_of (fv_lenL (by assumption) (by assumption)) ?_); conv => whnf)
                | ((with_reducible refine optm_var (fv_strL (by assumption) (by assumption)) (fun s hs => ?_)); conv => whnf)
                | ((with_reducible refine forceA_of ?_); conv => whnf)
                | fail)
              refine ⟨66 - (j + 1), by omega, Into.weak [0, 2] _ _ ⟨j + 1, cs, cs', L, M, cap₂, by omega, rfl, hcs, hcap, by omega, .inr ⟨hcs', hM.symm, rfl, rfl⟩⟩ ⟨rfl, congrArg (fun z => some (V.a (.int .i64 z))) e4, trivial⟩ ⟨ren_fv hcs _ _ _, ren_fv hcs' _ _ _, trivial⟩ ?_⟩
              simp [nodupb, baseb, Ob.okb, frmOk, V.okb, A.okb, all_fv hcs, all_fv hcs'] <;> decide
          · conv => whnf
            exact keepOf [.cells cs 5 false] [0] rfl ⟨ren_fv hcs _ _ _, trivial⟩ (by simp [nodupb, baseb, Ob.okb, frmOk, V.okb, A.okb, all_fv hcs] <;> decide) (hk cs L hcs hcap.symm)
        · conv => whnf
          refine condm_of (fun h => ?_) (fun h => ?_)
          · have hj66 : j < 66 := by have := of_decide_eq_true h; omega
            have e4 : IntKind.i64.wrap (↑j + 1) = ((j + 1 : Nat) : Int) := by rw [i64w (by omega) (by omega)]; rfl
            have e5 : IntKind.u8.wrap (IntKind.i64.wrap (7 + ↑j)) = ((b8 (IntKind.i64.wrap (7 + ↑j))).toNat : Int) := wrap8 _
            generalize b8 (IntKind.i64.wrap (7 + ↑j)) = b at *
            conv => whnf
            generalize IntKind.u8.wrap (IntKind.i64.wrap (7 + ↑j)) = v at *
            repeat' (first
              | ((with_reducible refine regx_of ?_ ?_); (· decide +kernel); conv => whnf)
              | ((with_reducible refine growx_pre ?_ ?_); (· exact ⟨_, rfl⟩); conv => whnf)
              | ((with_reducible refine needm_of ?_ ?_); (· first | assumption | exact decide_eq_true (by omega) | exact mkOK_of (by decide) | decide +kernel | (refine decide_eq_true ?_; simp (disch := omega) only [i64w]; omega)); conv => whnf)
              | ((with_reducible refine condm_pos ?_ ?_); (· assumption); conv => whnf)
              | ((with_reducible refine condm_neg ?_ ?_); (· assumption); conv => whnf)
              | ((with_reducible refine forceL_fv (by assumption) ?_); conv => whnf)
              | ((with_reducible refine forceL_rfv (by assumption) ?_); conv => whnf)
              | ((with_reducible refine forceNm_of ?_); conv => whnf)
              | ((with_reducible refine needm_of (fv_lenL (by assumption) (by assumption)) ?_); conv => whnf)
              | ((with_reducible refine optm_var (fv_strL (by assumption) (by assumption)) (fun s hs => ?_)); conv => whnf)
              | ((with_reducible refine forceA_of ?_); conv => whnf)
              | fail)
            refine condm_of (fun hc => ?_) (fun hc => ?_)
            · have hc' := of_decide_eq_true hc
              refine needm_of (decide_eq_true (by rw [s5, fv_len hcs₁]; simp only [List.length_drop, List.length_take, List.length_cons, List.length_nil]; omega)) ?_
              conv => whnf
              repeat' (first
                | ((with_reducible refine regx_of ?_ ?_); (· decide +kernel); conv => whnf)
                | ((with_reducible refine growx_pre ?_ ?_); (· exact ⟨_, rfl⟩); conv => whnf)
                | ((with_reducible refine needm_of ?_ ?_); (· first | assumption | exact decide_eq_true (by omega) | exact mkOK_of (by decide) | decide +kernel | (refine decide_eq_true ?_; simp (disch := omega) only [i64w]; omega)); conv => whnf)
                | ((with_reducible refine condm_pos ?_ ?_); (· assumption); conv => whnf)
                | ((with_reducible refine condm_neg ?_ ?_); (· assumption); conv => whnf)
                | ((with_reducible refine forceL_fv (by assumption) ?_); conv => whnf)
                | ((with_reducible refine forceL_rfv (by assumption) ?_); conv => whnf)
                | ((with_reducible refine forceNm_of ?_); conv => whnf)
                | ((with_reducible refine needm_of (fv_lenL (by assumption) (by assumption)) ?_); conv => whnf)
                | ((with_reducible refine optm_var (fv_strL (by assumption) (by assumption)) (fun s hs => ?_)); conv => whnf)
                | ((with_reducible refine forceA_of ?_); conv => whnf)
                | fail)
              obtain ⟨M, hM, hE⟩ := app_any (n := len + j) (S := Try.prog.types[5].size) hcs₁ s5 e5
              refine forceL_var hE (fun cs' hcs' => ?_)
              repeat' (first
                | ((with_reducible refine regx_of ?_ ?_); (· decide +kernel); conv => whnf)
                | ((with_reducible refine growx_pre ?_ ?_); (· exact ⟨_, rfl⟩); conv => whnf)
                | ((with_reducible refine needm_of ?_ ?_); (· first | assumption | exact decide_eq_true (by omega) | exact mkOK_of (by decide) | decide +kernel | (refine decide_eq_true ?_; simp (disch := omega) only [i64w]; omega)); conv => whnf)
                | ((with_reducible refine condm_pos ?_ ?_); (· assumption); conv => whnf)
                | ((with_reducible refine condm_neg ?_ ?_); (· assumption); conv => whnf)
                | ((with_reducible refine forceL_fv (by assumption) ?_); conv => whnf)
                | ((with_reducible refine forceL_rfv (by assumption) ?_); conv => whnf)
                | ((with_reducible refine forceNm_of ?_); conv => whnf)
                | ((with_reducible refine needm_of (fv_lenL (by assumption) (by assumption)) ?_); conv => whnf)
                | ((with_reducible refine optm_var (fv_strL (by assumption) (by assumption)) (fun s hs => ?_)); conv => whnf)
                | ((with_reducible refine forceA_of ?_); conv => whnf)
                | fail)
              refine ⟨66 - (j + 1), by omega, Into.weak [0, 1] _ _ ⟨j + 1, cs, cs', L, M, cap', by omega, rfl, hcs, hcap, by omega, .inr ⟨hcs', by rw [hM]; exact hcap', rfl, rfl⟩⟩ ⟨rfl, congrArg (fun z => some (V.a (.int .i64 z))) e4, trivial⟩ ⟨ren_fv hcs _ _ _, ren_fv hcs' _ _ _, trivial⟩ ?_⟩
              simp [nodupb, baseb, Ob.okb, frmOk, V.okb, A.okb, all_fv hcs, all_fv hcs'] <;> decide
            · have hc' := of_decide_eq_false hc
              conv => whnf
              refine needm_of (decide_eq_true (by rw [s5, fv_len hcs₁]; exact ⟨by omega, by show (_ : Nat) * 1 ≤ _; omega, by omega⟩)) ?_
              intro cap₂ hcap₂
              conv => whnf
              repeat' (first
                | ((with_reducible refine regx_of ?_ ?_); (· decide +kernel); conv => whnf)
                | ((with_reducible refine growx_pre ?_ ?_); (· exact ⟨_, rfl⟩); conv => whnf)
                | ((with_reducible refine needm_of ?_ ?_); (· first | assumption | exact decide_eq_true (by omega) | exact mkOK_of (by decide) | decide +kernel | (refine decide_eq_true ?_; simp (disch := omega) only [i64w]; omega)); conv => whnf)
                | ((with_reducible refine condm_pos ?_ ?_); (· assumption); conv => whnf)
                | ((with_reducible refine condm_neg ?_ ?_); (· assumption); conv => whnf)
                | ((with_reducible refine forceL_fv (by assumption) ?_); conv => whnf)
                | ((with_reducible refine forceL_rfv (by assumption) ?_); conv => whnf)
                | ((with_reducible refine forceNm_of ?_); conv => whnf)
                | ((with_reducible refine needm_of (fv_lenL (by assumption) (by assumption)) ?_); conv => whnf)
                | ((with_reducible refine optm_var (fv_strL (by assumption) (by assumption)) (fun s hs => ?_)); conv => whnf)
                | ((with_reducible refine forceA_of ?_); conv => whnf)
                | fail)
              obtain ⟨M, hM, hE⟩ := app_anew (n := len + j) (S := Try.prog.types[5].size) hcs₁ (by omega) s5 rfl hcap₂ e5
              refine forceL_var hE (fun cs' hcs' => ?_)
              repeat' (first
                | ((with_reducible refine regx_of ?_ ?_); (· decide +kernel); conv => whnf)
                | ((with_reducible refine growx_pre ?_ ?_); (· exact ⟨_, rfl⟩); conv => whnf)
                | ((with_reducible refine needm_of ?_ ?_); (· first | assumption | exact decide_eq_true (by omega) | exact mkOK_of (by decide) | decide +kernel | (refine decide_eq_true ?_; simp (disch := omega) only [i64w]; omega)); conv => whnf)
                | ((with_reducible refine condm_pos ?_ ?_); (· assumption); conv => whnf)
                | ((with_reducible refine condm_neg ?_ ?_); (· assumption); conv => whnf)
                | ((with_reducible refine forceL_fv (by assumption) ?_); conv => whnf)
                | ((with_reducible refine forceL_rfv (by assumption) ?_); conv => whnf)
                | ((with_reducible refine forceNm_of ?_); conv => whnf)
                | ((with_reducible refine needm_of (fv_lenL (by assumption) (by assumption)) ?_); conv => whnf)
                | ((with_reducible refine optm_var (fv_strL (by assumption) (by assumption)) (fun s hs => ?_)); conv => whnf)
                | ((with_reducible refine forceA_of ?_); conv => whnf)
                | fail)
              refine ⟨66 - (j + 1), by omega, Into.weak [0, 3] _ _ ⟨j + 1, cs, cs', L, M, cap₂, by omega, rfl, hcs, hcap, by omega, .inr ⟨hcs', hM.symm, rfl, rfl⟩⟩ ⟨rfl, congrArg (fun z => some (V.a (.int .i64 z))) e4, trivial⟩ ⟨ren_fv hcs _ _ _, ren_fv hcs' _ _ _, trivial⟩ ?_⟩
              simp [nodupb, baseb, Ob.okb, frmOk, V.okb, A.okb, all_fv hcs, all_fv hcs'] <;> decide
          · conv => whnf
            exact keepOf [.cells cs 5 false] [0] rfl ⟨ren_fv hcs _ _ _, trivial⟩ (by simp [nodupb, baseb, Ob.okb, frmOk, V.okb, A.okb, all_fv hcs] <;> decide) (hk cs L hcs hcap.symm)
end
end Go.Proofs.Ytglbldhineggaaa.DG
