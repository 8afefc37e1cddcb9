import Derived.Test.YtmnimmhpclhmfaaPL
namespace Go.Proofs.Ytmnimmhpclhmfaa.PC
open Go.Eng
set_option maxRecDepth 100000
theorem ans_lit {o : Option Nat} {r l : Nat} (h : Ans o r) (e : o = some l) : r = l := by
  rcases h with h | ⟨h, _⟩
  · rw [e] at h; injection h with h; exact h.symm
  · rw [e] at h; cases h
theorem sel_two {f : Int → Option Int} {X : List Int} (hf : f 1 = f 2) (h : Sel f 2 X []) : X = [1, 2] := by
  have hl : X.length = 2 := by simpa using h.len
  have hp := h.perm
  rw [List.append_nil] at hp
  have hu : upTo 2 = [1, 2] := rfl
  rw [hu] at hp
  have hd := h.done
  match X, hl with
  | [a, b], _ =>
    have ha : a ∈ ([1, 2] : List Int) := hp.subset (by simp)
    have hb : b ∈ ([1, 2] : List Int) := hp.subset (by simp)
    have hab : before f a b := by
      rw [List.pairwise_cons] at hd
      exact hd.1 b (by simp)
    have hir := kl_irrefl (f 2)
    simp only [List.mem_cons, List.not_mem_nil, or_false] at ha hb
    rcases ha with rfl | rfl <;> rcases hb with rfl | rfl
    · rcases hab with h | ⟨_, h⟩
      · rw [kl_irrefl] at h; cases h
      · omega
    · rfl
    · rcases hab with h | ⟨_, h⟩
      · rw [hf, hir] at h; cases h
      · omega
    · rcases hab with h | ⟨_, h⟩
      · rw [hir] at h; cases h
      · omega
section
variable {ro : Addr → A → Prop}
set_option maxHeartbeats 400000 in
theorem sameInts37 (L Y Z : List Int) (xs ys : List A) (n cx cy : Nat) (mx my : Bool) (hxs : xs = i64s (L ++ Y)) (hys : ys = i64s (L ++ Z)) (hn : n = L.length) (hn5 : n ≤ 1000) {K : V → Hp → Prop} (hK : K (.a (.bool true)) [.cells xs 3 mx, .cells ys 3 my]) :
    Go.Eng.Fn Try.prog ro 37 [.a (.slc 0 0 n cx), .a (.slc 1 0 n cy)] [.cells xs 3 mx, .cells ys 3 my] K := by
  have hp := Pl.i64 hxs
  have hq := Pl.i64 hys
  have c0 : ((n : Int) != (n : Int)) = false := by simp
  refine Go.Eng.Fn.weak ?_
  refine Go.Eng.Fn.of 2 h37 rfl Try.func37 rfl (Nat.le_of_ble_eq_true rfl) ?_
  conv => whnf
  repeat' (first
    | ((with_reducible refine regx_of ?_ ?_); (· decide +kernel); conv => whnf)
    | ((with_reducible refine growx_pre ?_ ?_); (· exact ⟨_, rfl⟩); conv => whnf)
    | ((with_reducible refine needm_of ?_ ?_); (· first | assumption | exact decide_eq_true (by omega) | exact mkOK_of (by decide) | decide +kernel | (refine decide_eq_true ?_; simp (disch := omega) only [i64w]; omega)); conv => whnf)
    | ((with_reducible refine condm_pos ?_ ?_); (· assumption); conv => whnf)
    | ((with_reducible refine condm_neg ?_ ?_); (· assumption); conv => whnf)
    | ((with_reducible refine forceL_fv (by assumption) ?_); conv => whnf)
    | ((with_reducible refine forceL_rfv (by assumption) ?_); conv => whnf)
    | ((with_reducible refine forceNm_of ?_); conv => whnf)
    | ((with_reducible refine needm_of (fv_lenL (by assumption) (by assumption)) ?_); conv => whnf)
    | ((with_reducible refine optm_var (fv_strL (by assumption) (by assumption)) (fun s hs => ?_)); conv => whnf)
    | ((with_reducible refine forceA_of ?_); conv => whnf)
    | ((with_reducible refine forceL_pl (by assumption) ?_); conv => whnf)
    | ((with_reducible refine forceL_rpl (by assumption) ?_); conv => whnf)
    | ((with_reducible apply optm_of); (· first | exact g0 | exact g1 | exact g2 | exact g3 | exact g4 | exact g5 | exact g6); conv => whnf)
    | fail)
  refine loopx_of (fun q F H => ∃ i : Nat, i ≤ n ∧ q = n - i ∧ F = [(0, .a (.slc 0 0 n cx)), (1, .a (.slc 1 0 n cy)), (5, .a (.int .i64 i))] ∧ H = [.cells xs 3 mx, .cells ys 3 my]) n ?_ ?_
  · exact Into.weak [0, 1] [(0, .a (.slc 0 0 n cx)), (1, .a (.slc 1 0 n cy)), (5, .a (.int .i64 (0 : Nat)))] _ ⟨0, by omega, rfl, rfl, rfl⟩ ⟨rfl, rfl, rfl, trivial⟩ ⟨ren_pl hp _ _ _, ren_pl hq _ _ _, trivial⟩ (by simp [nodupb, baseb, Ob.okb, frmOk, V.okb, A.okb, hp.2, hq.2] <;> decide)
  · rintro q F H ⟨i, hi, rfl, rfl, rfl⟩
    conv => whnf
    repeat' (first
      | ((with_reducible refine regx_of ?_ ?_); (· decide +kernel); conv => whnf)
      | ((with_reducible refine growx_pre ?_ ?_); (· exact ⟨_, rfl⟩); conv => whnf)
      | ((with_reducible refine needm_of ?_ ?_); (· first | assumption | exact decide_eq_true (by omega) | exact mkOK_of (by decide) | decide +kernel | (refine decide_eq_true ?_; simp (disch := omega) only [i64w]; omega)); conv => whnf)
      | ((with_reducible refine condm_pos ?_ ?_); (· assumption); conv => whnf)
      | ((with_reducible refine condm_neg ?_ ?_); (· assumption); conv => whnf)
      | ((with_reducible refine forceL_fv (by assumption) ?_); conv => whnf)
      | ((with_reducible refine forceL_rfv (by assumption) ?_); conv => whnf)
      | ((with_reducible refine forceNm_of ?_); conv => whnf)
      | ((with_reducible refine needm_of (fv_lenL (by assumption) (by assumption)) ?_); conv => whnf)
      | ((with_reducible refine optm_var (fv_strL (by assumption) (by assumption)) (fun s hs => ?_)); conv => whnf)
      | ((with_reducible refine forceA_of ?_); conv => whnf)
      | ((with_reducible refine forceL_pl (by assumption) ?_); conv => whnf)
      | ((with_reducible refine forceL_rpl (by assumption) ?_); conv => whnf)
      | ((with_reducible apply optm_of); (· first | exact g0 | exact g1 | exact g2 | exact g3 | exact g4 | exact g5 | exact g6); conv => whnf)
      | fail)
    refine condm_of (fun h => ?_) (fun h => ?_)
    · have hin : i < n := by have := of_decide_eq_true h; omega
      have e4 : IntKind.i64.wrap (↑i + 1) = ((i + 1 : Nat) : Int) := by rw [i64w (by omega) (by omega)]; rfl
      obtain ⟨x, hx⟩ : ∃ x, L[i]? = some x := ⟨_, List.getElem?_eq_getElem (by omega)⟩
      have g0 : xs[0 + (i : Int).toNat * Try.prog.types[3].size]? = some (.int .i64 x) := by rw [s3, Int.toNat_natCast, Nat.zero_add, Nat.mul_one]; exact i64s_get hxs (by rw [List.getElem?_append_left (by omega)]; exact hx)
      have g1 : ys[0 + (i : Int).toNat * Try.prog.types[3].size]? = some (.int .i64 x) := by rw [s3, Int.toNat_natCast, Nat.zero_add, Nat.mul_one]; exact i64s_get hys (by rw [List.getElem?_append_left (by omega)]; exact hx)
      have c1 : (x != x) = false := by simp
      conv => whnf
      repeat' (first
        | ((with_reducible refine regx_of ?_ ?_); (· decide +kernel); conv => whnf)
        | ((with_reducible refine growx_pre ?_ ?_); (· exact ⟨_, rfl⟩); conv => whnf)
        | ((with_reducible refine needm_of ?_ ?_); (· first | assumption | exact decide_eq_true (by omega) | exact mkOK_of (by decide) | decide +kernel | (refine decide_eq_true ?_; simp (disch := omega) only [i64w]; omega)); conv => whnf)
        | ((with_reducible refine condm_pos ?_ ?_); (· assumption); conv => whnf)
        | ((with_reducible refine condm_neg ?_ ?_); (· assumption); conv => whnf)
        | ((with_reducible refine forceL_fv (by assumption) ?_); conv => whnf)
        | ((with_reducible refine forceL_rfv (by assumption) ?_); conv => whnf)
        | ((with_reducible refine forceNm_of ?_); conv => whnf)
        | ((with_reducible refine needm_of (fv_lenL (by assumption) (by assumption)) ?_); conv => whnf)
        | ((with_reducible refine optm_var (fv_strL (by assumption) (by assumption)) (fun s hs => ?_)); conv => whnf)
        | ((with_reducible refine forceA_of ?_); conv => whnf)
        | ((with_reducible refine forceL_pl (by assumption) ?_); conv => whnf)
        | ((with_reducible refine forceL_rpl (by assumption) ?_); conv => whnf)
        | ((with_reducible apply optm_of); (· first | exact g0 | exact g1 | exact g2 | exact g3 | exact g4 | exact g5 | exact g6); conv => whnf)
        | fail)
      refine ⟨n - (i + 1), by omega, Into.weak [0, 1] [(0, .a (.slc 0 0 n cx)), (1, .a (.slc 1 0 n cy)), (5, .a (.int .i64 ((i + 1 : Nat) : Int)))] [.cells xs 3 mx, .cells ys 3 my] ⟨i + 1, by omega, rfl, rfl, rfl⟩ ⟨rfl, rfl, congrArg (fun z => some (V.a (.int .i64 z))) e4, trivial⟩ ⟨ren_pl hp _ _ _, ren_pl hq _ _ _, trivial⟩ (by simp [nodupb, baseb, Ob.okb, frmOk, V.okb, A.okb, hp.2, hq.2] <;> decide)⟩
    ·
      conv => whnf
      repeat' (first
        | ((with_reducible refine regx_of ?_ ?_); (· decide +kernel); conv => whnf)
        | ((with_reducible refine growx_pre ?_ ?_); (· exact ⟨_, rfl⟩); conv => whnf)
        | ((with_reducible refine needm_of ?_ ?_); (· first | assumption | exact decide_eq_true (by omega) | exact mkOK_of (by decide) | decide +kernel | (refine decide_eq_true ?_; simp (disch := omega) only [i64w]; omega)); conv => whnf)
        | ((with_reducible refine condm_pos ?_ ?_); (· assumption); conv => whnf)
        | ((with_reducible refine condm_neg ?_ ?_); (· assumption); conv => whnf)
        | ((with_reducible refine forceL_fv (by assumption) ?_); conv => whnf)
        | ((with_reducible refine forceL_rfv (by assumption) ?_); conv => whnf)
        | ((with_reducible refine forceNm_of ?_); conv => whnf)
        | ((with_reducible refine needm_of (fv_lenL (by assumption) (by assumption)) ?_); conv => whnf)
        | ((with_reducible refine optm_var (fv_strL (by assumption) (by assumption)) (fun s hs => ?_)); conv => whnf)
        | ((with_reducible refine forceA_of ?_); conv => whnf)
        | ((with_reducible refine forceL_pl (by assumption) ?_); conv => whnf)
        | ((with_reducible refine forceL_rpl (by assumption) ?_); conv => whnf)
        | ((with_reducible apply optm_of); (· first | exact g0 | exact g1 | exact g2 | exact g3 | exact g4 | exact g5 | exact g6); conv => whnf)
        | fail)
      exact keepOf (v₀ := .a (.bool true)) [.cells xs 3 mx, .cells ys 3 my] [0, 1] rfl ⟨ren_pl hp _ _ _, ren_pl hq _ _ _, trivial⟩ (by simp [nodupb, baseb, Ob.okb, frmOk, V.okb, A.okb, hp.2, hq.2] <;> decide) hK
set_option maxHeartbeats 400000 in
theorem copysign36 {K : V → Hp → Prop} (hK : ∀ r, r = 9223372036854775808 → K (.a (.flt .f64 r)) []) : Go.Eng.Fn Try.prog ro 36 [.a (.flt .f64 0), .a (.flt .f64 13830554455654793216)] [] K := by
  refine Go.Eng.Fn.weak ?_
  refine Go.Eng.Fn.of_code (gOf []) Try.func36 rfl (Nat.le_of_ble_eq_true rfl) ?_
  conv => whnf
  repeat' (first
    | ((with_reducible refine regx_of ?_ ?_); (· decide +kernel); conv => whnf)
    | ((with_reducible refine growx_pre ?_ ?_); (· exact ⟨_, rfl⟩); conv => whnf)
    | ((with_reducible refine needm_of ?_ ?_); (· first | assumption | exact decide_eq_true (by omega) | exact mkOK_of (by decide) | decide +kernel | (refine decide_eq_true ?_; simp (disch := omega) only [i64w]; omega)); conv => whnf)
    | ((with_reducible refine condm_pos ?_ ?_); (· assumption); conv => whnf)
    | ((with_reducible refine condm_neg ?_ ?_); (· assumption); conv => whnf)
    | ((with_reducible refine forceL_fv (by assumption) ?_); conv => whnf)
    | ((with_reducible refine forceL_rfv (by assumption) ?_); conv => whnf)
    | ((with_reducible refine forceNm_of ?_); conv => whnf)
    | ((with_reducible refine needm_of (fv_lenL (by assumption) (by assumption)) ?_); conv => whnf)
    | ((with_reducible refine optm_var (fv_strL (by assumption) (by assumption)) (fun s hs => ?_)); conv => whnf)
    | ((with_reducible refine forceA_of ?_); conv => whnf)
    | ((with_reducible refine forceL_pl (by assumption) ?_); conv => whnf)
    | ((with_reducible refine forceL_rpl (by assumption) ?_); conv => whnf)
    | ((with_reducible refine fltx_of (fun r hr => ?_)); conv => whnf)
    | ((refine ext_bits (by rfl) bits_n bits_f ?_); conv => whnf)
    | ((refine ext_from (by rfl) from_n from_f ?_); conv => whnf)
    | fail)
  refine keepOf (v₀ := .a (.flt .f64 _)) [] [] rfl trivial rfl (hK _ (by decide))
end
def y1 : Pt := ⟨true, false, 4625196817309499392, 4620693217682128896, 0, 0, 0⟩
def y2 : Pt := ⟨true, false, 4624633867356078080, 4620693217682128896, 0, 0, 0⟩
theorem heard_1 {y : Pt} (h : HeardR p0 4625196817309499392 y) : y = y1 := by
  obtain ⟨a, b, c, d, e, f, _⟩ := h
  obtain ⟨f1, f2⟩ := f rfl
  have f3 := ans_lit (l := 4620693217682128896) f2 (by decide +kernel)
  obtain ⟨h, en, m, s, db, w, sh⟩ := y
  simp only at *
  subst a b c d e f1 f3
  rfl
theorem heard_2 {y : Pt} (h : HeardR y1 4620693217682128896 y) : y = y2 := by
  obtain ⟨a, b, c, d, e, _, f⟩ := h
  obtain ⟨d', a', b', c', h1, h2, h3, h4, h5, h6⟩ := f rfl
  have e1 := ans_lit (l := 13844065254536904704) h1 (by decide +kernel)
  subst e1
  have e2 := ans_lit (l := 0) h2 (by unfold absF; decide +kernel)
  subst e2
  have e3 := ans_lit (l := 0) h3 (by decide +kernel)
  subst e3
  have e4 := ans_lit (l := 4620693217682128896) h4 (by decide +kernel)
  have e5 := ans_lit (l := 13830554455654793216) h5 (by decide +kernel)
  subst e5
  have e6 := ans_lit (l := 4624633867356078080) h6 (by decide +kernel)
  obtain ⟨h, en, m, s, db, w, sh⟩ := y
  simp only at *
  subst a b c d e e4 e6
  rfl
theorem wbase_0 {b : Nat} (h : WBase p0 b) : b = 4620693217682128896 := by
  rcases h with ⟨_, h⟩ | ⟨h, _⟩
  · exact h
  · cases h
theorem wbase_1 {b : Nat} (h : WBase y1 b) : b = 4631952216750555136 := by
  rcases h with ⟨h, _⟩ | ⟨_, m, h1, h2⟩
  · cases h
  · have e1 := ans_lit (l := 4629700416936869888) h1 (by decide +kernel)
    subst e1
    exact ans_lit h2 (by decide +kernel)
theorem ticks_8 : ticks 4620693217682128896 = 8 := by unfold ticks isNan fLtK fEqK fGtK nearN; decide +kernel
theorem ticks_48 : ticks 4631952216750555136 = 48 := by unfold ticks isNan fLtK fEqK fGtK nearN; decide +kernel
section
variable {ro : Addr → A → Prop}
set_option maxHeartbeats 400000 in
theorem works18 {K : V → Hp → Prop} (hK : K (.a (.bool true)) []) : Go.Eng.Fn Try.prog ro 18 [] [] K := by
  refine Go.Eng.Fn.weak ?_
  refine Go.Eng.Fn.of_code (gOf []) Try.func18 rfl (Nat.le_of_ble_eq_true rfl) ?_
  conv => whnf
  repeat' (first
    | ((with_reducible refine regx_of ?_ ?_); (· decide +kernel); conv => whnf)
    | ((with_reducible refine growx_pre ?_ ?_); (· exact ⟨_, rfl⟩); conv => whnf)
    | ((with_reducible refine needm_of ?_ ?_); (· first | assumption | exact decide_eq_true (by omega) | exact mkOK_of (by decide) | decide +kernel | (refine decide_eq_true ?_; simp (disch := omega) only [i64w]; omega)); conv => whnf)
    | ((with_reducible refine condm_pos ?_ ?_); (· assumption); conv => whnf)
    | ((with_reducible refine condm_neg ?_ ?_); (· assumption); conv => whnf)
    | ((with_reducible refine forceL_fv (by assumption) ?_); conv => whnf)
    | ((with_reducible refine forceL_rfv (by assumption) ?_); conv => whnf)
    | ((with_reducible refine forceNm_of ?_); conv => whnf)
    | ((with_reducible refine needm_of (fv_lenL (by assumption) (by assumption)) ?_); conv => whnf)
    | ((with_reducible refine optm_var (fv_strL (by assumption) (by assumption)) (fun s hs => ?_)); conv => whnf)
    | ((with_reducible refine forceA_of ?_); conv => whnf)
    | ((with_reducible refine forceL_pl (by assumption) ?_); conv => whnf)
    | ((with_reducible refine forceL_rpl (by assumption) ?_); conv => whnf)
    | ((with_reducible apply optm_of); (· first | exact g0 | exact g1 | exact g2 | exact g3 | exact g4 | exact g5 | exact g6); conv => whnf)
    | fail)
  refine Go.Eng.Fn.frame [] (by rfl) (by exact trivial) (by rfl) (new19 2 (by decide) (by decide) (fun cs hcs => ?_))
  replace hcs : cs = prow [p0, p0] := hcs
  have hp := Pl.prow hcs
  conv => whnf
  repeat' (first
    | ((with_reducible refine regx_of ?_ ?_); (· decide +kernel); conv => whnf)
    | ((with_reducible refine growx_pre ?_ ?_); (· exact ⟨_, rfl⟩); conv => whnf)
    | ((with_reducible refine needm_of ?_ ?_); (· first | assumption | exact decide_eq_true (by omega) | exact mkOK_of (by decide) | decide +kernel | (refine decide_eq_true ?_; simp (disch := omega) only [i64w]; omega)); conv => whnf)
    | ((with_reducible refine condm_pos ?_ ?_); (· assumption); conv => whnf)
    | ((with_reducible refine condm_neg ?_ ?_); (· assumption); conv => whnf)
    | ((with_reducible refine forceL_fv (by assumption) ?_); conv => whnf)
    | ((with_reducible refine forceL_rfv (by assumption) ?_); conv => whnf)
    | ((with_reducible refine forceNm_of ?_); conv => whnf)
    | ((with_reducible refine needm_of (fv_lenL (by assumption) (by assumption)) ?_); conv => whnf)
    | ((with_reducible refine optm_var (fv_strL (by assumption) (by assumption)) (fun s hs => ?_)); conv => whnf)
    | ((with_reducible refine forceA_of ?_); conv => whnf)
    | ((with_reducible refine forceL_pl (by assumption) ?_); conv => whnf)
    | ((with_reducible refine forceL_rpl (by assumption) ?_); conv => whnf)
    | ((with_reducible apply optm_of); (· first | exact g0 | exact g1 | exact g2 | exact g3 | exact g4 | exact g5 | exact g6); conv => whnf)
    | fail)
  refine Go.Eng.Fn.frame [0, 1] (by rfl) (by exact ⟨ren_pl hp _ _ _, rfl, trivial⟩) (by simp [nodupb, V.okb, A.okb, Ob.okb, hp.2] <;> decide) (wait24 [p0, p0] cs 2 false hcs rfl (by decide) 1 (fun h => absurd ⟨by decide, by decide⟩ h) (fun k x hx e b hb => ?_))
  obtain rfl : k = 0 := by omega
  obtain rfl : p0 = x := by simpa using hx
  rw [wbase_0 hb]
  refine ldexp41n 4620693217682128896 0 (by decide) (by decide) (by decide) (fun _ r hr => ?_) (fun h => absurd h (by decide))
  have hr8 := ans_lit (l := 4620693217682128896) hr (by decide +kernel)
  refine ⟨r, rfl, rfl, ?_⟩
  rw [hr8, ticks_8]
  clear hr hr8 r hb b e hx
  conv => whnf
  repeat' (first
    | ((with_reducible refine regx_of ?_ ?_); (· decide +kernel); conv => whnf)
    | ((with_reducible refine growx_pre ?_ ?_); (· exact ⟨_, rfl⟩); conv => whnf)
    | ((with_reducible refine needm_of ?_ ?_); (· first | assumption | exact decide_eq_true (by omega) | exact mkOK_of (by decide) | decide +kernel | (refine decide_eq_true ?_; simp (disch := omega) only [i64w]; omega)); conv => whnf)
    | ((with_reducible refine condm_pos ?_ ?_); (· assumption); conv => whnf)
    | ((with_reducible refine condm_neg ?_ ?_); (· assumption); conv => whnf)
    | ((with_reducible refine forceL_fv (by assumption) ?_); conv => whnf)
    | ((with_reducible refine forceL_rfv (by assumption) ?_); conv => whnf)
    | ((with_reducible refine forceNm_of ?_); conv => whnf)
    | ((with_reducible refine needm_of (fv_lenL (by assumption) (by assumption)) ?_); conv => whnf)
    | ((with_reducible refine optm_var (fv_strL (by assumption) (by assumption)) (fun s hs => ?_)); conv => whnf)
    | ((with_reducible refine forceA_of ?_); conv => whnf)
    | ((with_reducible refine forceL_pl (by assumption) ?_); conv => whnf)
    | ((with_reducible refine forceL_rpl (by assumption) ?_); conv => whnf)
    | ((with_reducible apply optm_of); (· first | exact g0 | exact g1 | exact g2 | exact g3 | exact g4 | exact g5 | exact g6); conv => whnf)
    | fail)
  refine Go.Eng.Fn.frame [0, 1] (by rfl) (by exact ⟨ren_pl hp _ _ _, rfl, trivial⟩) (by simp [nodupb, V.okb, A.okb, Ob.okb, hp.2] <;> decide) (heard22 [p0, p0] cs 2 false hcs rfl (by decide) 1 4625196817309499392 (by decide) (fun h => absurd ⟨by decide, by decide⟩ h) (fun k x hx e hf => absurd hf (by unfold fin fLtK; decide +kernel)) (fun k x hx e hf y hy cs1 hcs1 => ?_))
  obtain rfl : k = 0 := by omega
  obtain rfl : p0 = x := by simpa using hx
  obtain rfl := heard_1 hy
  replace hcs1 : cs1 = prow [y1, p0] := hcs1
  have hp1 := Pl.prow hcs1
  clear hy hf e hx hp hcs
  conv => whnf
  repeat' (first
    | ((with_reducible refine regx_of ?_ ?_); (· decide +kernel); conv => whnf)
    | ((with_reducible refine growx_pre ?_ ?_); (· exact ⟨_, rfl⟩); conv => whnf)
    | ((with_reducible refine needm_of ?_ ?_); (· first | assumption | exact decide_eq_true (by omega) | exact mkOK_of (by decide) | decide +kernel | (refine decide_eq_true ?_; simp (disch := omega) only [i64w]; omega)); conv => whnf)
    | ((with_reducible refine condm_pos ?_ ?_); (· assumption); conv => whnf)
    | ((with_reducible refine condm_neg ?_ ?_); (· assumption); conv => whnf)
    | ((with_reducible refine forceL_fv (by assumption) ?_); conv => whnf)
    | ((with_reducible refine forceL_rfv (by assumption) ?_); conv => whnf)
    | ((with_reducible refine forceNm_of ?_); conv => whnf)
    | ((with_reducible refine needm_of (fv_lenL (by assumption) (by assumption)) ?_); conv => whnf)
    | ((with_reducible refine optm_var (fv_strL (by assumption) (by assumption)) (fun s hs => ?_)); conv => whnf)
    | ((with_reducible refine forceA_of ?_); conv => whnf)
    | ((with_reducible refine forceL_pl (by assumption) ?_); conv => whnf)
    | ((with_reducible refine forceL_rpl (by assumption) ?_); conv => whnf)
    | ((with_reducible apply optm_of); (· first | exact g0 | exact g1 | exact g2 | exact g3 | exact g4 | exact g5 | exact g6); conv => whnf)
    | fail)
  refine Go.Eng.Fn.frame [0, 1] (by rfl) (by exact ⟨ren_pl hp1 _ _ _, rfl, trivial⟩) (by simp [nodupb, V.okb, A.okb, Ob.okb, hp1.2] <;> decide) (wait24 [y1, p0] cs1 2 false hcs1 rfl (by decide) 1 (fun h => absurd ⟨by decide, by decide⟩ h) (fun k x hx e b hb => ?_))
  obtain rfl : k = 0 := by omega
  obtain rfl : y1 = x := by simpa using hx
  rw [wbase_1 hb]
  refine ldexp41n 4631952216750555136 0 (by decide) (by decide) (by decide) (fun _ r hr => ?_) (fun h => absurd h (by decide))
  have hr8 := ans_lit (l := 4631952216750555136) hr (by decide +kernel)
  refine ⟨r, rfl, rfl, ?_⟩
  rw [hr8, ticks_48]
  clear hr hr8 r hb b e hx
  conv => whnf
  repeat' (first
    | ((with_reducible refine regx_of ?_ ?_); (· decide +kernel); conv => whnf)
    | ((with_reducible refine growx_pre ?_ ?_); (· exact ⟨_, rfl⟩); conv => whnf)
    | ((with_reducible refine needm_of ?_ ?_); (· first | assumption | exact decide_eq_true (by omega) | exact mkOK_of (by decide) | decide +kernel | (refine decide_eq_true ?_; simp (disch := omega) only [i64w]; omega)); conv => whnf)
    | ((with_reducible refine condm_pos ?_ ?_); (· assumption); conv => whnf)
    | ((with_reducible refine condm_neg ?_ ?_); (· assumption); conv => whnf)
    | ((with_reducible refine forceL_fv (by assumption) ?_); conv => whnf)
    | ((with_reducible refine forceL_rfv (by assumption) ?_); conv => whnf)
    | ((with_reducible refine forceNm_of ?_); conv => whnf)
    | ((with_reducible refine needm_of (fv_lenL (by assumption) (by assumption)) ?_); conv => whnf)
    | ((with_reducible refine optm_var (fv_strL (by assumption) (by assumption)) (fun s hs => ?_)); conv => whnf)
    | ((with_reducible refine forceA_of ?_); conv => whnf)
    | ((with_reducible refine forceL_pl (by assumption) ?_); conv => whnf)
    | ((with_reducible refine forceL_rpl (by assumption) ?_); conv => whnf)
    | ((with_reducible apply optm_of); (· first | exact g0 | exact g1 | exact g2 | exact g3 | exact g4 | exact g5 | exact g6); conv => whnf)
    | fail)
  refine Go.Eng.Fn.frame [0, 1] (by rfl) (by exact ⟨ren_pl hp1 _ _ _, rfl, trivial⟩) (by simp [nodupb, V.okb, A.okb, Ob.okb, hp1.2] <;> decide) (heard22 [y1, p0] cs1 2 false hcs1 rfl (by decide) 1 4620693217682128896 (by decide) (fun h => absurd ⟨by decide, by decide⟩ h) (fun k x hx e hf => absurd hf (by unfold fin fLtK; decide +kernel)) (fun k x hx e hf y hy cs2 hcs2 => ?_))
  obtain rfl : k = 0 := by omega
  obtain rfl : y1 = x := by simpa using hx
  obtain rfl := heard_2 hy
  replace hcs2 : cs2 = prow [y2, p0] := hcs2
  have hp2 := Pl.prow hcs2
  clear hy hf e hx hp1 hcs1
  conv => whnf
  repeat' (first
    | ((with_reducible refine regx_of ?_ ?_); (· decide +kernel); conv => whnf)
    | ((with_reducible refine growx_pre ?_ ?_); (· exact ⟨_, rfl⟩); conv => whnf)
    | ((with_reducible refine needm_of ?_ ?_); (· first | assumption | exact decide_eq_true (by omega) | exact mkOK_of (by decide) | decide +kernel | (refine decide_eq_true ?_; simp (disch := omega) only [i64w]; omega)); conv => whnf)
    | ((with_reducible refine condm_pos ?_ ?_); (· assumption); conv => whnf)
    | ((with_reducible refine condm_neg ?_ ?_); (· assumption); conv => whnf)
    | ((with_reducible refine forceL_fv (by assumption) ?_); conv => whnf)
    | ((with_reducible refine forceL_rfv (by assumption) ?_); conv => whnf)
    | ((with_reducible refine forceNm_of ?_); conv => whnf)
    | ((with_reducible refine needm_of (fv_lenL (by assumption) (by assumption)) ?_); conv => whnf)
    | ((with_reducible refine optm_var (fv_strL (by assumption) (by assumption)) (fun s hs => ?_)); conv => whnf)
    | ((with_reducible refine forceA_of ?_); conv => whnf)
    | ((with_reducible refine forceL_pl (by assumption) ?_); conv => whnf)
    | ((with_reducible refine forceL_rpl (by assumption) ?_); conv => whnf)
    | ((with_reducible apply optm_of); (· first | exact g0 | exact g1 | exact g2 | exact g3 | exact g4 | exact g5 | exact g6); conv => whnf)
    | fail)
  refine Go.Eng.Fn.frame [0, 1] (by rfl) (by exact ⟨ren_pl hp2 _ _ _, rfl, trivial⟩) (by simp [nodupb, V.okb, A.okb, Ob.okb, hp2.2] <;> decide) (trip21 [y2, p0] cs2 2 false hcs2 rfl (by decide) 1 (fun h => absurd ⟨by decide, by decide⟩ h) (fun k x hx e => ?_))
  obtain rfl : k = 0 := by omega
  obtain rfl : y2 = x := by simpa using hx
  clear e hx
  conv => whnf
  repeat' (first
    | ((with_reducible refine regx_of ?_ ?_); (· decide +kernel); conv => whnf)
    | ((with_reducible refine growx_pre ?_ ?_); (· exact ⟨_, rfl⟩); conv => whnf)
    | ((with_reducible refine needm_of ?_ ?_); (· first | assumption | exact decide_eq_true (by omega) | exact mkOK_of (by decide) | decide +kernel | (refine decide_eq_true ?_; simp (disch := omega) only [i64w]; omega)); conv => whnf)
    | ((with_reducible refine condm_pos ?_ ?_); (· assumption); conv => whnf)
    | ((with_reducible refine condm_neg ?_ ?_); (· assumption); conv => whnf)
    | ((with_reducible refine forceL_fv (by assumption) ?_); conv => whnf)
    | ((with_reducible refine forceL_rfv (by assumption) ?_); conv => whnf)
    | ((with_reducible refine forceNm_of ?_); conv => whnf)
    | ((with_reducible refine needm_of (fv_lenL (by assumption) (by assumption)) ?_); conv => whnf)
    | ((with_reducible refine optm_var (fv_strL (by assumption) (by assumption)) (fun s hs => ?_)); conv => whnf)
    | ((with_reducible refine forceA_of ?_); conv => whnf)
    | ((with_reducible refine forceL_pl (by assumption) ?_); conv => whnf)
    | ((with_reducible refine forceL_rpl (by assumption) ?_); conv => whnf)
    | ((with_reducible apply optm_of); (· first | exact g0 | exact g1 | exact g2 | exact g3 | exact g4 | exact g5 | exact g6); conv => whnf)
    | fail)
  refine Go.Eng.Fn.frame [] (by rfl) (by exact trivial) (by rfl) (same15 y2.mean 4624633867356078080 ?_)
  rw [show same y2.mean 4624633867356078080 = true by unfold same isNan; decide]
  conv => whnf
  repeat' (first
    | ((with_reducible refine regx_of ?_ ?_); (· decide +kernel); conv => whnf)
    | ((with_reducible refine growx_pre ?_ ?_); (· exact ⟨_, rfl⟩); conv => whnf)
    | ((with_reducible refine needm_of ?_ ?_); (· first | assumption | exact decide_eq_true (by omega) | exact mkOK_of (by decide) | decide +kernel | (refine decide_eq_true ?_; simp (disch := omega) only [i64w]; omega)); conv => whnf)
    | ((with_reducible refine condm_pos ?_ ?_); (· assumption); conv => whnf)
    | ((with_reducible refine condm_neg ?_ ?_); (· assumption); conv => whnf)
    | ((with_reducible refine forceL_fv (by assumption) ?_); conv => whnf)
    | ((with_reducible refine forceL_rfv (by assumption) ?_); conv => whnf)
    | ((with_reducible refine forceNm_of ?_); conv => whnf)
    | ((with_reducible refine needm_of (fv_lenL (by assumption) (by assumption)) ?_); conv => whnf)
    | ((with_reducible refine optm_var (fv_strL (by assumption) (by assumption)) (fun s hs => ?_)); conv => whnf)
    | ((with_reducible refine forceA_of ?_); conv => whnf)
    | ((with_reducible refine forceL_pl (by assumption) ?_); conv => whnf)
    | ((with_reducible refine forceL_rpl (by assumption) ?_); conv => whnf)
    | ((with_reducible apply optm_of); (· first | exact g0 | exact g1 | exact g2 | exact g3 | exact g4 | exact g5 | exact g6); conv => whnf)
    | fail)
  refine Go.Eng.Fn.frame [] (by rfl) (by exact trivial) (by rfl) (same15 y2.stray 4620693217682128896 ?_)
  rw [show same y2.stray 4620693217682128896 = true by unfold same isNan; decide]
  conv => whnf
  repeat' (first
    | ((with_reducible refine regx_of ?_ ?_); (· decide +kernel); conv => whnf)
    | ((with_reducible refine growx_pre ?_ ?_); (· exact ⟨_, rfl⟩); conv => whnf)
    | ((with_reducible refine needm_of ?_ ?_); (· first | assumption | exact decide_eq_true (by omega) | exact mkOK_of (by decide) | decide +kernel | (refine decide_eq_true ?_; simp (disch := omega) only [i64w]; omega)); conv => whnf)
    | ((with_reducible refine condm_pos ?_ ?_); (· assumption); conv => whnf)
    | ((with_reducible refine condm_neg ?_ ?_); (· assumption); conv => whnf)
    | ((with_reducible refine forceL_fv (by assumption) ?_); conv => whnf)
    | ((with_reducible refine forceL_rfv (by assumption) ?_); conv => whnf)
    | ((with_reducible refine forceNm_of ?_); conv => whnf)
    | ((with_reducible refine needm_of (fv_lenL (by assumption) (by assumption)) ?_); conv => whnf)
    | ((with_reducible refine optm_var (fv_strL (by assumption) (by assumption)) (fun s hs => ?_)); conv => whnf)
    | ((with_reducible refine forceA_of ?_); conv => whnf)
    | ((with_reducible refine forceL_pl (by assumption) ?_); conv => whnf)
    | ((with_reducible refine forceL_rpl (by assumption) ?_); conv => whnf)
    | ((with_reducible apply optm_of); (· first | exact g0 | exact g1 | exact g2 | exact g3 | exact g4 | exact g5 | exact g6); conv => whnf)
    | fail)
  refine Go.Eng.Fn.frame [] (by rfl) (by exact trivial) (by rfl) (nan35 ?_)
  conv => whnf
  repeat' (first
    | ((with_reducible refine regx_of ?_ ?_); (· decide +kernel); conv => whnf)
    | ((with_reducible refine growx_pre ?_ ?_); (· exact ⟨_, rfl⟩); conv => whnf)
    | ((with_reducible refine needm_of ?_ ?_); (· first | assumption | exact decide_eq_true (by omega) | exact mkOK_of (by decide) | decide +kernel | (refine decide_eq_true ?_; simp (disch := omega) only [i64w]; omega)); conv => whnf)
    | ((with_reducible refine condm_pos ?_ ?_); (· assumption); conv => whnf)
    | ((with_reducible refine condm_neg ?_ ?_); (· assumption); conv => whnf)
    | ((with_reducible refine forceL_fv (by assumption) ?_); conv => whnf)
    | ((with_reducible refine forceL_rfv (by assumption) ?_); conv => whnf)
    | ((with_reducible refine forceNm_of ?_); conv => whnf)
    | ((with_reducible refine needm_of (fv_lenL (by assumption) (by assumption)) ?_); conv => whnf)
    | ((with_reducible refine optm_var (fv_strL (by assumption) (by assumption)) (fun s hs => ?_)); conv => whnf)
    | ((with_reducible refine forceA_of ?_); conv => whnf)
    | ((with_reducible refine forceL_pl (by assumption) ?_); conv => whnf)
    | ((with_reducible refine forceL_rpl (by assumption) ?_); conv => whnf)
    | ((with_reducible apply optm_of); (· first | exact g0 | exact g1 | exact g2 | exact g3 | exact g4 | exact g5 | exact g6); conv => whnf)
    | fail)
  refine Go.Eng.Fn.frame [] (by rfl) (by exact trivial) (by rfl) (less11 9221120237041090561 13830554455654793216 ?_)
  rw [show less 9221120237041090561 13830554455654793216 = true by unfold less isNan fLtK; decide +kernel]
  conv => whnf
  repeat' (first
    | ((with_reducible refine regx_of ?_ ?_); (· decide +kernel); conv => whnf)
    | ((with_reducible refine growx_pre ?_ ?_); (· exact ⟨_, rfl⟩); conv => whnf)
    | ((with_reducible refine needm_of ?_ ?_); (· first | assumption | exact decide_eq_true (by omega) | exact mkOK_of (by decide) | decide +kernel | (refine decide_eq_true ?_; simp (disch := omega) only [i64w]; omega)); conv => whnf)
    | ((with_reducible refine condm_pos ?_ ?_); (· assumption); conv => whnf)
    | ((with_reducible refine condm_neg ?_ ?_); (· assumption); conv => whnf)
    | ((with_reducible refine forceL_fv (by assumption) ?_); conv => whnf)
    | ((with_reducible refine forceL_rfv (by assumption) ?_); conv => whnf)
    | ((with_reducible refine forceNm_of ?_); conv => whnf)
    | ((with_reducible refine needm_of (fv_lenL (by assumption) (by assumption)) ?_); conv => whnf)
    | ((with_reducible refine optm_var (fv_strL (by assumption) (by assumption)) (fun s hs => ?_)); conv => whnf)
    | ((with_reducible refine forceA_of ?_); conv => whnf)
    | ((with_reducible refine forceL_pl (by assumption) ?_); conv => whnf)
    | ((with_reducible refine forceL_rpl (by assumption) ?_); conv => whnf)
    | ((with_reducible apply optm_of); (· first | exact g0 | exact g1 | exact g2 | exact g3 | exact g4 | exact g5 | exact g6); conv => whnf)
    | fail)
  refine Go.Eng.Fn.frame [] (by rfl) (by exact trivial) (by rfl) (copysign36 (fun z hz => ?_))
  subst hz
  conv => whnf
  repeat' (first
    | ((with_reducible refine regx_of ?_ ?_); (· decide +kernel); conv => whnf)
    | ((with_reducible refine growx_pre ?_ ?_); (· exact ⟨_, rfl⟩); conv => whnf)
    | ((with_reducible refine needm_of ?_ ?_); (· first | assumption | exact decide_eq_true (by omega) | exact mkOK_of (by decide) | decide +kernel | (refine decide_eq_true ?_; simp (disch := omega) only [i64w]; omega)); conv => whnf)
    | ((with_reducible refine condm_pos ?_ ?_); (· assumption); conv => whnf)
    | ((with_reducible refine condm_neg ?_ ?_); (· assumption); conv => whnf)
    | ((with_reducible refine forceL_fv (by assumption) ?_); conv => whnf)
    | ((with_reducible refine forceL_rfv (by assumption) ?_); conv => whnf)
    | ((with_reducible refine forceNm_of ?_); conv => whnf)
    | ((with_reducible refine needm_of (fv_lenL (by assumption) (by assumption)) ?_); conv => whnf)
    | ((with_reducible refine optm_var (fv_strL (by assumption) (by assumption)) (fun s hs => ?_)); conv => whnf)
    | ((with_reducible refine forceA_of ?_); conv => whnf)
    | ((with_reducible refine forceL_pl (by assumption) ?_); conv => whnf)
    | ((with_reducible refine forceL_rpl (by assumption) ?_); conv => whnf)
    | ((with_reducible apply optm_of); (· first | exact g0 | exact g1 | exact g2 | exact g3 | exact g4 | exact g5 | exact g6); conv => whnf)
    | fail)
  refine Go.Eng.Fn.frame [] (by rfl) (by exact trivial) (by rfl) (less11 0 9223372036854775808 ?_)
  rw [show less 0 9223372036854775808 = false by unfold less isNan fLtK; decide +kernel]
  conv => whnf
  repeat' (first
    | ((with_reducible refine regx_of ?_ ?_); (· decide +kernel); conv => whnf)
    | ((with_reducible refine growx_pre ?_ ?_); (· exact ⟨_, rfl⟩); conv => whnf)
    | ((with_reducible refine needm_of ?_ ?_); (· first | assumption | exact decide_eq_true (by omega) | exact mkOK_of (by decide) | decide +kernel | (refine decide_eq_true ?_; simp (disch := omega) only [i64w]; omega)); conv => whnf)
    | ((with_reducible refine condm_pos ?_ ?_); (· assumption); conv => whnf)
    | ((with_reducible refine condm_neg ?_ ?_); (· assumption); conv => whnf)
    | ((with_reducible refine forceL_fv (by assumption) ?_); conv => whnf)
    | ((with_reducible refine forceL_rfv (by assumption) ?_); conv => whnf)
    | ((with_reducible refine forceNm_of ?_); conv => whnf)
    | ((with_reducible refine needm_of (fv_lenL (by assumption) (by assumption)) ?_); conv => whnf)
    | ((with_reducible refine optm_var (fv_strL (by assumption) (by assumption)) (fun s hs => ?_)); conv => whnf)
    | ((with_reducible refine forceA_of ?_); conv => whnf)
    | ((with_reducible refine forceL_pl (by assumption) ?_); conv => whnf)
    | ((with_reducible refine forceL_rpl (by assumption) ?_); conv => whnf)
    | ((with_reducible apply optm_of); (· first | exact g0 | exact g1 | exact g2 | exact g3 | exact g4 | exact g5 | exact g6); conv => whnf)
    | fail)
  refine Go.Eng.Fn.frame [0, 1] (by rfl) (by exact ⟨ren_pl hp2 _ _ _, rfl, trivial⟩) (by simp [nodupb, V.okb, A.okb, Ob.okb, hp2.2] <;> decide) (order26 [y2, p0] cs2 2 false hcs2 rfl (by decide) (by decide) 0 (fun X Y xs cap hS hxs hcap => ?_))
  have hX := sel_two (by unfold sk; rw [show scoreA [y2, p0] 1 0 = scoreA [y2, p0] 2 0 by unfold scoreA; rfl]) hS
  rw [hX] at hxs
  have hq := Pl.i64 hxs
  have hl12 : [A.int .i64 1, A.int .i64 2] = i64s ([1, 2] ++ []) := by unfold i64s; rfl
  conv => whnf
  repeat' (first
    | ((with_reducible refine regx_of ?_ ?_); (· decide +kernel); conv => whnf)
    | ((with_reducible refine growx_pre ?_ ?_); (· exact ⟨_, rfl⟩); conv => whnf)
    | ((with_reducible refine needm_of ?_ ?_); (· first | assumption | exact decide_eq_true (by omega) | exact mkOK_of (by decide) | decide +kernel | (refine decide_eq_true ?_; simp (disch := omega) only [i64w]; omega)); conv => whnf)
    | ((with_reducible refine condm_pos ?_ ?_); (· assumption); conv => whnf)
    | ((with_reducible refine condm_neg ?_ ?_); (· assumption); conv => whnf)
    | ((with_reducible refine forceL_fv (by assumption) ?_); conv => whnf)
    | ((with_reducible refine forceL_rfv (by assumption) ?_); conv => whnf)
    | ((with_reducible refine forceNm_of ?_); conv => whnf)
    | ((with_reducible refine needm_of (fv_lenL (by assumption) (by assumption)) ?_); conv => whnf)
    | ((with_reducible refine optm_var (fv_strL (by assumption) (by assumption)) (fun s hs => ?_)); conv => whnf)
    | ((with_reducible refine forceA_of ?_); conv => whnf)
    | ((with_reducible refine forceL_pl (by assumption) ?_); conv => whnf)
    | ((with_reducible refine forceL_rpl (by assumption) ?_); conv => whnf)
    | ((with_reducible apply optm_of); (· first | exact g0 | exact g1 | exact g2 | exact g3 | exact g4 | exact g5 | exact g6); conv => whnf)
    | fail)
  refine Go.Eng.Fn.frame [2, 3] (by rfl) (by exact ⟨ren_pl hq _ _ _, rfl, trivial⟩) (by simp [nodupb, V.okb, A.okb, Ob.okb, hq.2] <;> decide) (sameInts37 [1, 2] Y [] xs _ 2 cap 2 false false hxs hl12 rfl (by decide) ?_)
  conv => whnf
  repeat' (first
    | ((with_reducible refine regx_of ?_ ?_); (· decide +kernel); conv => whnf)
    | ((with_reducible refine growx_pre ?_ ?_); (· exact ⟨_, rfl⟩); conv => whnf)
    | ((with_reducible refine needm_of ?_ ?_); (· first | assumption | exact decide_eq_true (by omega) | exact mkOK_of (by decide) | decide +kernel | (refine decide_eq_true ?_; simp (disch := omega) only [i64w]; omega)); conv => whnf)
    | ((with_reducible refine condm_pos ?_ ?_); (· assumption); conv => whnf)
    | ((with_reducible refine condm_neg ?_ ?_); (· assumption); conv => whnf)
    | ((with_reducible refine forceL_fv (by assumption) ?_); conv => whnf)
    | ((with_reducible refine forceL_rfv (by assumption) ?_); conv => whnf)
    | ((with_reducible refine forceNm_of ?_); conv => whnf)
    | ((with_reducible refine needm_of (fv_lenL (by assumption) (by assumption)) ?_); conv => whnf)
    | ((with_reducible refine optm_var (fv_strL (by assumption) (by assumption)) (fun s hs => ?_)); conv => whnf)
    | ((with_reducible refine forceA_of ?_); conv => whnf)
    | ((with_reducible refine forceL_pl (by assumption) ?_); conv => whnf)
    | ((with_reducible refine forceL_rpl (by assumption) ?_); conv => whnf)
    | ((with_reducible apply optm_of); (· first | exact g0 | exact g1 | exact g2 | exact g3 | exact g4 | exact g5 | exact g6); conv => whnf)
    | fail)
  exact keepOf (v₀ := .a (.bool true)) [] [] rfl trivial rfl hK
end
end Go.Proofs.Ytmnimmhpclhmfaa.PC
