import Derived.Test.YtglbldhineggaaaDE
import Derived.Test.YtglbldhineggaaaDS
namespace Go.Proofs.Ytglbldhineggaaa.DG
open Go.Eng
set_option maxRecDepth 100000
theorem same41n {xs : List A} {R : List UInt8} (h : xs = u8s R) (hl : R.length = 32) : EqAgg Try.prog 41 xs xs true := by
  apply EqAgg.of
  show eqIt Try.prog (eqD Try.prog 11) 5 1 xs xs (List.range 32) = some true
  refine eqIt_same (fun k n => ?_) _ (fun i hi => ?_)
  · show (if k = k then some (decide (n = n)) else none) = some true
    simp
  · have hi8 : i < 32 := by simpa using hi
    refine ⟨.u8, ((R[i]'(by omega)).toNat : Int), ?_⟩
    show (match xs[i * 1]? with | some x => some (V.a x) | none => none) = _
    rw [Nat.mul_one, fv_get h (by omega)]
theorem ren_fbn {l : List A} (h : Flat l) (δ : Nat → Nat) (ty : TypeId) (mk : Bool) : (Ob.cells l ty mk).ren δ = Ob.cells l ty mk := by
  simp only [Ob.ren, h.ren]
theorem plug_onen {δ : Nat → Nat} {d : Nat} {o : Ob} {H : Hp} (hH : H[d]? = some o) (ho : o.ren δ = o) : plugL δ [d] [o] H = H := by
  simp only [plugL, ho, List.map_nil, List.append_nil]
  apply List.ext_getElem?
  intro j
  by_cases hj : d = j
  · subst hj; rw [List.getElem?_set_self (List.getElem?_eq_some_iff.1 hH).1, hH]
  · rw [List.getElem?_set_ne hj]
theorem Src.ren {ro : Addr → A → Prop} {x : A} {L : List UInt8} (h : Src ro x L) (δ : Nat → Nat) : x.ren δ = x := by
  rcases h with ⟨rfl, _⟩ | ⟨p, cap, rfl, _⟩ <;> rfl
theorem Src.okb {ro : Addr → A → Prop} {x : A} {L : List UInt8} (h : Src ro x L) (n : Nat) : x.okb n = true := by
  rcases h with ⟨rfl, _⟩ | ⟨p, cap, rfl, _⟩ <;> rfl
section
variable {ro : Addr → A → Prop}
theorem three_lt (a : Int) : (IntKind.i64.wrap (a.tmod 3 + 3)).tmod 3 = 0 ∨ (IntKind.i64.wrap (a.tmod 3 + 3)).tmod 3 = 1 ∨ (IntKind.i64.wrap (a.tmod 3 + 3)).tmod 3 = 2 := by
  have h1 : -3 < a.tmod 3 := by have := Int.lt_tmod_of_pos a (show (0:Int) < 3 by decide); omega
  have h2 : a.tmod 3 < 3 := Int.tmod_lt_of_pos a (by decide)
  rw [i64w (by omega) (by omega)]
  have := Int.tmod_lt_of_pos (a.tmod 3 + 3) (show (0:Int) < 3 by decide)
  have := Int.tmod_nonneg 3 (show (0:Int) ≤ a.tmod 3 + 3 by omega)
  omega
@[irreducible] def three (a : Int) : Int := (IntKind.i64.wrap (a.tmod 3 + 3)).tmod 3
theorem three30 (a : Int) {K : V → Hp → Prop} (hK : K (.a (.int .i64 (three a))) []) : Go.Eng.Fn Try.prog ro 30 [.a (.int .i64 a)] [] K := by
  obtain ⟨z, hz⟩ : ∃ z, z = three a := ⟨_, rfl⟩
  rw [← hz] at hK
  unfold three at hz
  refine Go.Eng.Fn.weak ?_
  refine Go.Eng.Fn.of 0 (gOf []) rfl Try.func30 rfl (Nat.le_of_ble_eq_true rfl) ?_
  conv => whnf
  rw [← hz]
  exact keepOf (v₀ := .a (.int .i64 z)) [] [] rfl trivial rfl hK
set_option maxHeartbeats 1000000 in
theorem len36n' (T : List UInt8) (n : Nat) (hs : List A) (hhs : HS T n hs) {K : V → Hp → Prop} (hK : K (.a (.int .u64 n)) [.cells hs 68 false]) : Go.Eng.Fn Try.prog ro 36 [.a (.ptr 0 0)] [.cells hs 68 false] K := by
  have hfl := hhs.flat
  obtain ⟨R, hR, hRt, hrow0⟩ := id hhs
  refine Go.Eng.Fn.weak ?_
  refine Go.Eng.Fn.of 1 (gOf []) rfl Try.func36 rfl (Nat.le_of_ble_eq_true rfl) ?_
  conv => whnf
  repeat' (first
    | ((with_reducible refine optm_of (hrow_n hrow0 hR) ?_); conv => whnf)
    | ((with_reducible refine regx_of ?_ ?_); (· decide +kernel); conv => whnf)
    | ((with_reducible refine growx_pre ?_ ?_); (· exact ⟨_, rfl⟩); conv => whnf)
    | ((with_reducible refine needm_of ?_ ?_); (· first | assumption | exact decide_eq_true (by omega) | exact mkOK_of (by decide) | decide +kernel | (refine decide_eq_true ?_; simp (disch := omega) only [i64w]; omega)); conv => whnf)
    | ((with_reducible refine condm_pos ?_ ?_); (· assumption); conv => whnf)
    | ((with_reducible refine condm_neg ?_ ?_); (· assumption); conv => whnf)
    | ((with_reducible refine forceL_fv (by assumption) ?_); conv => whnf)
    | ((with_reducible refine forceL_rfv (by assumption) ?_); conv => whnf)
    | ((with_reducible refine forceNm_of ?_); conv => whnf)
    | ((with_reducible refine needm_of (fv_lenL (by assumption) (by assumption)) ?_); conv => whnf)
    | ((with_reducible refine optm_var (fv_strL (by assumption) (by assumption)) (fun s hs => ?_)); conv => whnf)
    | ((with_reducible refine forceA_of ?_); conv => whnf)
    | ((with_reducible refine forceL_fw (by assumption) ?_); conv => whnf)
    | ((with_reducible refine forceL_rfw (by assumption) ?_); conv => whnf)
    | ((with_reducible refine forceL_fl (by assumption) ?_); conv => whnf)
    | ((with_reducible refine forceL_rfl (by assumption) ?_); conv => whnf)
    | fail)
  exact keepOf (v₀ := .a (.int .u64 n)) [.cells hs 68 false] [0] rfl ⟨ren_fl hfl _ _ _, trivial⟩ (by simp [nodupb, baseb, Ob.okb, frmOk, V.okb, A.okb, hfl.all]) hK
set_option maxHeartbeats 1000000 in
theorem copy34 (T : List UInt8) (n : Nat) (hs : List A) (hhs : HS T n hs) {K : V → Hp → Prop} (hK : K (.a (.ptr 1 0)) [.cells hs 68 false, .cells hs 68 false]) : Go.Eng.Fn Try.prog ro 34 [.a (.ptr 0 0)] [.cells hs 68 false] K := by
  have hfl := hhs.flat
  obtain ⟨R, hR, hRt, hrow0⟩ := id hhs
  have hhl : hs.length = 74 := by rw [hrow0]; exact hrow_length hR
  obtain ⟨z74, hz74⟩ : ∃ zs : List A, zs = [A.int .u32 0, A.int .u32 0, A.int .u32 0, A.int .u32 0, A.int .u32 0, A.int .u32 0, A.int .u32 0, A.int .u32 0, A.int .u8 0, A.int .u8 0, A.int .u8 0, A.int .u8 0, A.int .u8 0, A.int .u8 0, A.int .u8 0, A.int .u8 0, A.int .u8 0, A.int .u8 0, A.int .u8 0, A.int .u8 0, A.int .u8 0, A.int .u8 0, A.int .u8 0, A.int .u8 0, A.int .u8 0, A.int .u8 0, A.int .u8 0, A.int .u8 0, A.int .u8 0, A.int .u8 0, A.int .u8 0, A.int .u8 0, A.int .u8 0, A.int .u8 0, A.int .u8 0, A.int .u8 0, A.int .u8 0, A.int .u8 0, A.int .u8 0, A.int .u8 0, A.int .u8 0, A.int .u8 0, A.int .u8 0, A.int .u8 0, A.int .u8 0, A.int .u8 0, A.int .u8 0, A.int .u8 0, A.int .u8 0, A.int .u8 0, A.int .u8 0, A.int .u8 0, A.int .u8 0, A.int .u8 0, A.int .u8 0, A.int .u8 0, A.int .u8 0, A.int .u8 0, A.int .u8 0, A.int .u8 0, A.int .u8 0, A.int .u8 0, A.int .u8 0, A.int .u8 0, A.int .u8 0, A.int .u8 0, A.int .u8 0, A.int .u8 0, A.int .u8 0, A.int .u8 0, A.int .u8 0, A.int .u8 0, A.int .i64 0, A.int .u64 0] := ⟨_, rfl⟩
  have hy : z74 = hrow ⟨0, 0, 0, 0, 0, 0, 0, 0⟩ (List.replicate 64 0) 0 0 := by rw [hz74]; unfold hrow u8s u32s; rfl
  have hyf := hrow_flat hy
  have h74l : z74.length = 74 := by rw [hz74]; rfl
  refine Go.Eng.Fn.weak ?_
  refine Go.Eng.Fn.of 1 (gOf []) rfl Try.func34 rfl (Nat.le_of_ble_eq_true rfl) ?_
  conv => whnf
  repeat' (first
    | rw [← hz74]
    | ((with_reducible refine regx_of ?_ ?_); (· decide +kernel); conv => whnf)
    | ((with_reducible refine growx_pre ?_ ?_); (· exact ⟨_, rfl⟩); conv => whnf)
    | ((with_reducible refine needm_of ?_ ?_); (· first | assumption | exact decide_eq_true (by omega) | exact mkOK_of (by decide) | decide +kernel | (refine decide_eq_true ?_; simp (disch := omega) only [i64w]; omega)); conv => whnf)
    | ((with_reducible refine condm_pos ?_ ?_); (· assumption); conv => whnf)
    | ((with_reducible refine condm_neg ?_ ?_); (· assumption); conv => whnf)
    | ((with_reducible refine forceL_fv (by assumption) ?_); conv => whnf)
    | ((with_reducible refine forceL_rfv (by assumption) ?_); conv => whnf)
    | ((with_reducible refine forceNm_of ?_); conv => whnf)
    | ((with_reducible refine needm_of (fv_lenL (by assumption) (by assumption)) ?_); conv => whnf)
    | ((with_reducible refine optm_var (fv_strL (by assumption) (by assumption)) (fun s hs => ?_)); conv => whnf)
    | ((with_reducible refine forceA_of ?_); conv => whnf)
    | ((with_reducible refine forceL_fw (by assumption) ?_); conv => whnf)
    | ((with_reducible refine forceL_rfw (by assumption) ?_); conv => whnf)
    | ((with_reducible refine forceL_fl (by assumption) ?_); conv => whnf)
    | ((with_reducible refine forceL_rfl (by assumption) ?_); conv => whnf)
    | fail)
  refine needm_of (by rw [hhl]; rfl) ?_
  conv => whnf
  refine forceL_to (whole_of (by rw [hhl]; rfl)) ?_
  conv => whnf
  repeat' (first
    | rw [← hz74]
    | ((with_reducible refine regx_of ?_ ?_); (· decide +kernel); conv => whnf)
    | ((with_reducible refine growx_pre ?_ ?_); (· exact ⟨_, rfl⟩); conv => whnf)
    | ((with_reducible refine needm_of ?_ ?_); (· first | assumption | exact decide_eq_true (by omega) | exact mkOK_of (by decide) | decide +kernel | (refine decide_eq_true ?_; simp (disch := omega) only [i64w]; omega)); conv => whnf)
    | ((with_reducible refine condm_pos ?_ ?_); (· assumption); conv => whnf)
    | ((with_reducible refine condm_neg ?_ ?_); (· assumption); conv => whnf)
    | ((with_reducible refine forceL_fv (by assumption) ?_); conv => whnf)
    | ((with_reducible refine forceL_rfv (by assumption) ?_); conv => whnf)
    | ((with_reducible refine forceNm_of ?_); conv => whnf)
    | ((with_reducible refine needm_of (fv_lenL (by assumption) (by assumption)) ?_); conv => whnf)
    | ((with_reducible refine optm_var (fv_strL (by assumption) (by assumption)) (fun s hs => ?_)); conv => whnf)
    | ((with_reducible refine forceA_of ?_); conv => whnf)
    | ((with_reducible refine forceL_fw (by assumption) ?_); conv => whnf)
    | ((with_reducible refine forceL_rfw (by assumption) ?_); conv => whnf)
    | ((with_reducible refine forceL_fl (by assumption) ?_); conv => whnf)
    | ((with_reducible refine forceL_rfl (by assumption) ?_); conv => whnf)
    | fail)
  refine needm_of (by rw [hhl, h74l]; rfl) ?_
  conv => whnf
  repeat' (first
    | rw [← hz74]
    | ((with_reducible refine regx_of ?_ ?_); (· decide +kernel); conv => whnf)
    | ((with_reducible refine growx_pre ?_ ?_); (· exact ⟨_, rfl⟩); conv => whnf)
    | ((with_reducible refine needm_of ?_ ?_); (· first | assumption | exact decide_eq_true (by omega) | exact mkOK_of (by decide) | decide +kernel | (refine decide_eq_true ?_; simp (disch := omega) only [i64w]; omega)); conv => whnf)
    | ((with_reducible refine condm_pos ?_ ?_); (· assumption); conv => whnf)
    | ((with_reducible refine condm_neg ?_ ?_); (· assumption); conv => whnf)
    | ((with_reducible refine forceL_fv (by assumption) ?_); conv => whnf)
    | ((with_reducible refine forceL_rfv (by assumption) ?_); conv => whnf)
    | ((with_reducible refine forceNm_of ?_); conv => whnf)
    | ((with_reducible refine needm_of (fv_lenL (by assumption) (by assumption)) ?_); conv => whnf)
    | ((with_reducible refine optm_var (fv_strL (by assumption) (by assumption)) (fun s hs => ?_)); conv => whnf)
    | ((with_reducible refine forceA_of ?_); conv => whnf)
    | ((with_reducible refine forceL_fw (by assumption) ?_); conv => whnf)
    | ((with_reducible refine forceL_rfw (by assumption) ?_); conv => whnf)
    | ((with_reducible refine forceL_fl (by assumption) ?_); conv => whnf)
    | ((with_reducible refine forceL_rfl (by assumption) ?_); conv => whnf)
    | fail)
  refine forceL_to (store_all (by rw [hhl, h74l])) ?_
  conv => whnf
  repeat' (first
    | rw [← hz74]
    | ((with_reducible refine regx_of ?_ ?_); (· decide +kernel); conv => whnf)
    | ((with_reducible refine growx_pre ?_ ?_); (· exact ⟨_, rfl⟩); conv => whnf)
    | ((with_reducible refine needm_of ?_ ?_); (· first | assumption | exact decide_eq_true (by omega) | exact mkOK_of (by decide) | decide +kernel | (refine decide_eq_true ?_; simp (disch := omega) only [i64w]; omega)); conv => whnf)
    | ((with_reducible refine condm_pos ?_ ?_); (· assumption); conv => whnf)
    | ((with_reducible refine condm_neg ?_ ?_); (· assumption); conv => whnf)
    | ((with_reducible refine forceL_fv (by assumption) ?_); conv => whnf)
    | ((with_reducible refine forceL_rfv (by assumption) ?_); conv => whnf)
    | ((with_reducible refine forceNm_of ?_); conv => whnf)
    | ((with_reducible refine needm_of (fv_lenL (by assumption) (by assumption)) ?_); conv => whnf)
    | ((with_reducible refine optm_var (fv_strL (by assumption) (by assumption)) (fun s hs => ?_)); conv => whnf)
    | ((with_reducible refine forceA_of ?_); conv => whnf)
    | ((with_reducible refine forceL_fw (by assumption) ?_); conv => whnf)
    | ((with_reducible refine forceL_rfw (by assumption) ?_); conv => whnf)
    | ((with_reducible refine forceL_fl (by assumption) ?_); conv => whnf)
    | ((with_reducible refine forceL_rfl (by assumption) ?_); conv => whnf)
    | fail)
  refine ⟨.a (.ptr 1 0), [.cells hs 68 false, .cells hs 68 false], [0, 1], ?_, ?_, ?_, hK⟩
  · rfl
  · exact ⟨ren_fl hfl _ _ _, ren_fl hfl _ _ _, trivial⟩
  · simp [nodupb, baseb, Ob.okb, frmOk, V.okb, A.okb, hfl.all]
    rfl
set_option maxHeartbeats 1000000 in
theorem reset35 (T : List UInt8) (n : Nat) (hs : List A) (hhs : HS T n hs) {K : V → Hp → Prop} (hK : ∀ hs', HS [] 0 hs' → K (.t []) [.cells hs' 68 false]) : Go.Eng.Fn Try.prog ro 35 [.a (.ptr 0 0)] [.cells hs 68 false] K := by
  have hfl := hhs.flat
  obtain ⟨R, hR, hRt, hrow0⟩ := id hhs
  have hhl : hs.length = 74 := by rw [hrow0]; exact hrow_length hR
  obtain ⟨hs2, hhs2⟩ : ∃ zs : List A, zs = [A.int .u32 1779033703, A.int .u32 3144134277, A.int .u32 1013904242, A.int .u32 2773480762, A.int .u32 1359893119, A.int .u32 2600822924, A.int .u32 528734635, A.int .u32 1541459225, A.int .u8 0, A.int .u8 0, A.int .u8 0, A.int .u8 0, A.int .u8 0, A.int .u8 0, A.int .u8 0, A.int .u8 0, A.int .u8 0, A.int .u8 0, A.int .u8 0, A.int .u8 0, A.int .u8 0, A.int .u8 0, A.int .u8 0, A.int .u8 0, A.int .u8 0, A.int .u8 0, A.int .u8 0, A.int .u8 0, A.int .u8 0, A.int .u8 0, A.int .u8 0, A.int .u8 0, A.int .u8 0, A.int .u8 0, A.int .u8 0, A.int .u8 0, A.int .u8 0, A.int .u8 0, A.int .u8 0, A.int .u8 0, A.int .u8 0, A.int .u8 0, A.int .u8 0, A.int .u8 0, A.int .u8 0, A.int .u8 0, A.int .u8 0, A.int .u8 0, A.int .u8 0, A.int .u8 0, A.int .u8 0, A.int .u8 0, A.int .u8 0, A.int .u8 0, A.int .u8 0, A.int .u8 0, A.int .u8 0, A.int .u8 0, A.int .u8 0, A.int .u8 0, A.int .u8 0, A.int .u8 0, A.int .u8 0, A.int .u8 0, A.int .u8 0, A.int .u8 0, A.int .u8 0, A.int .u8 0, A.int .u8 0, A.int .u8 0, A.int .u8 0, A.int .u8 0, A.int .i64 0, A.int .u64 0] := ⟨_, rfl⟩
  have hy : hs2 = hrow s0 (List.replicate 64 0) 0 0 := by rw [hhs2]; unfold hrow u32s u8s; rfl
  have hfl2 := hrow_flat hy
  have hH : HS [] 0 hs2 := by rw [hy]; exact HS.new
  have h2l : hs2.length = 74 := by rw [hhs2]; rfl
  refine Go.Eng.Fn.weak ?_
  refine Go.Eng.Fn.of 1 (gOf []) rfl Try.func35 rfl (Nat.le_of_ble_eq_true rfl) ?_
  conv => whnf
  refine Go.Eng.Fn.frame [] (by rfl) (by exact trivial) (by rfl) (start23 (fun ks hks => ?_))
  subst hks
  conv => whnf
  repeat' (first
    | rw [← hhs2]
    | ((with_reducible refine regx_of ?_ ?_); (· decide +kernel); conv => whnf)
    | ((with_reducible refine growx_pre ?_ ?_); (· exact ⟨_, rfl⟩); conv => whnf)
    | ((with_reducible refine needm_of ?_ ?_); (· first | assumption | exact decide_eq_true (by omega) | exact mkOK_of (by decide) | decide +kernel | (refine decide_eq_true ?_; simp (disch := omega) only [i64w]; omega)); conv => whnf)
    | ((with_reducible refine condm_pos ?_ ?_); (· assumption); conv => whnf)
    | ((with_reducible refine condm_neg ?_ ?_); (· assumption); conv => whnf)
    | ((with_reducible refine forceL_fv (by assumption) ?_); conv => whnf)
    | ((with_reducible refine forceL_rfv (by assumption) ?_); conv => whnf)
    | ((with_reducible refine forceNm_of ?_); conv => whnf)
    | ((with_reducible refine needm_of (fv_lenL (by assumption) (by assumption)) ?_); conv => whnf)
    | ((with_reducible refine optm_var (fv_strL (by assumption) (by assumption)) (fun s hs => ?_)); conv => whnf)
    | ((with_reducible refine forceA_of ?_); conv => whnf)
    | ((with_reducible refine forceL_fw (by assumption) ?_); conv => whnf)
    | ((with_reducible refine forceL_rfw (by assumption) ?_); conv => whnf)
    | ((with_reducible refine forceL_fl (by assumption) ?_); conv => whnf)
    | ((with_reducible refine forceL_rfl (by assumption) ?_); conv => whnf)
    | fail)
  refine needm_of (by rw [hhl, h2l]; rfl) ?_
  conv => whnf
  refine forceL_to (store_all (by rw [hhl, h2l])) ?_
  conv => whnf
  repeat' (first
    | ((with_reducible refine regx_of ?_ ?_); (· decide +kernel); conv => whnf)
    | ((with_reducible refine growx_pre ?_ ?_); (· exact ⟨_, rfl⟩); conv => whnf)
    | ((with_reducible refine needm_of ?_ ?_); (· first | assumption | exact decide_eq_true (by omega) | exact mkOK_of (by decide) | decide +kernel | (refine decide_eq_true ?_; simp (disch := omega) only [i64w]; omega)); conv => whnf)
    | ((with_reducible refine condm_pos ?_ ?_); (· assumption); conv => whnf)
    | ((with_reducible refine condm_neg ?_ ?_); (· assumption); conv => whnf)
    | ((with_reducible refine forceL_fv (by assumption) ?_); conv => whnf)
    | ((with_reducible refine forceL_rfv (by assumption) ?_); conv => whnf)
    | ((with_reducible refine forceNm_of ?_); conv => whnf)
    | ((with_reducible refine needm_of (fv_lenL (by assumption) (by assumption)) ?_); conv => whnf)
    | ((with_reducible refine optm_var (fv_strL (by assumption) (by assumption)) (fun s hs => ?_)); conv => whnf)
    | ((with_reducible refine forceA_of ?_); conv => whnf)
    | ((with_reducible refine forceL_fw (by assumption) ?_); conv => whnf)
    | ((with_reducible refine forceL_rfw (by assumption) ?_); conv => whnf)
    | ((with_reducible refine forceL_fl (by assumption) ?_); conv => whnf)
    | ((with_reducible refine forceL_rfl (by assumption) ?_); conv => whnf)
    | fail)
  refine ⟨.t [], [.cells hs2 68 false], [0], rfl, ⟨ren_fl hfl2 _ _ _, trivial⟩, ?_, hK hs2 hH⟩
  simp [nodupb, baseb, Ob.okb, frmOk, V.okb, hfl2.all]
set_option maxHeartbeats 1000000 in
theorem kept22s (x : A) (L y : List UInt8) (hx : Src ro x L) (cs : List A) (n cap : Nat) (hcs : cs = u8s (L ++ (marks 66 ++ y))) (hn : n = L.length) (hcap : cap = n + 66 + y.length) (hbig : n + 66 ≤ 140737488355328) {K : V → Hp → Prop}
    (hK : K (.a (.bool true)) [.cells cs 5 false]) :
    Go.Eng.Fn Try.prog ro 22 [.a (.slc 0 0 n cap), .a x] [.cells cs 5 false] K := by
  refine Go.Eng.Fn.weak ?_
  refine Go.Eng.Fn.of 1 (gOf []) rfl Try.func22 rfl (Nat.le_of_ble_eq_true rfl) ?_
  rcases hx with ⟨rfl, hL⟩ | ⟨p, cap₀, rfl, hro⟩
  · conv => whnf
    repeat' (first
      | ((with_reducible refine regx_of ?_ ?_); (· decide +kernel); conv => whnf)
      | ((with_reducible refine growx_pre ?_ ?_); (· exact ⟨_, rfl⟩); conv => whnf)
      | ((with_reducible refine needm_of ?_ ?_); (· first | assumption | exact decide_eq_true (by omega) | exact mkOK_of (by decide) | decide +kernel | (refine decide_eq_true ?_; simp (disch := omega) only [i64w]; omega)); conv => whnf)
      | ((with_reducible refine condm_pos ?_ ?_); (· assumption); conv => whnf)
      | ((with_reducible refine condm_neg ?_ ?_); (· assumption); conv => whnf)
      | ((with_reducible refine forceL_fv (by assumption) ?_); conv => whnf)
      | ((with_reducible refine forceL_rfv (by assumption) ?_); conv => whnf)
      | ((with_reducible refine forceNm_of ?_); conv => whnf)
      | ((with_reducible refine needm_of (fv_lenL (by assumption) (by assumption)) ?_); conv => whnf)
      | ((with_reducible refine optm_var (fv_strL (by assumption) (by assumption)) (fun s hs => ?_)); conv => whnf)
      | ((with_reducible refine forceA_of ?_); conv => whnf)
      | ((with_reducible refine forceL_fw (by assumption) ?_); conv => whnf)
      | ((with_reducible refine forceL_rfw (by assumption) ?_); conv => whnf)
      | ((with_reducible refine forceL_fl (by assumption) ?_); conv => whnf)
      | ((with_reducible refine forceL_rfl (by assumption) ?_); conv => whnf)
      | fail)
    refine condm_neg (by rw [hs, hL]; rfl) ?_
    conv => whnf
    repeat' (first
      | ((with_reducible refine regx_of ?_ ?_); (· decide +kernel); conv => whnf)
      | ((with_reducible refine growx_pre ?_ ?_); (· exact ⟨_, rfl⟩); conv => whnf)
      | ((with_reducible refine needm_of ?_ ?_); (· first | assumption | exact decide_eq_true (by omega) | exact mkOK_of (by decide) | decide +kernel | (refine decide_eq_true ?_; simp (disch := omega) only [i64w]; omega)); conv => whnf)
      | ((with_reducible refine condm_pos ?_ ?_); (· assumption); conv => whnf)
      | ((with_reducible refine condm_neg ?_ ?_); (· assumption); conv => whnf)
      | ((with_reducible refine forceL_fv (by assumption) ?_); conv => whnf)
      | ((with_reducible refine forceL_rfv (by assumption) ?_); conv => whnf)
      | ((with_reducible refine forceNm_of ?_); conv => whnf)
      | ((with_reducible refine needm_of (fv_lenL (by assumption) (by assumption)) ?_); conv => whnf)
      | ((with_reducible refine optm_var (fv_strL (by assumption) (by assumption)) (fun s hs => ?_)); conv => whnf)
      | ((with_reducible refine forceA_of ?_); conv => whnf)
      | ((with_reducible refine forceL_fw (by assumption) ?_); conv => whnf)
      | ((with_reducible refine forceL_rfw (by assumption) ?_); conv => whnf)
      | ((with_reducible refine forceL_fl (by assumption) ?_); conv => whnf)
      | ((with_reducible refine forceL_rfl (by assumption) ?_); conv => whnf)
      | fail)
    have hn0 : n = 0 := by rw [hn, hL]; rfl
    have e0 : (if cap = 0 then 0 else 0 + 0 * Try.prog.types[5].size) = 0 := by split <;> simp
    rw [e0]
    refine loopx_of (fun m F H => ∃ j : Nat, j ≤ 66 ∧ m = 66 - j ∧ F = [(1, .a .nils), (5, .a (.slc 0 0 (n + 66) cap)), (6, .a (.int .i64 j))] ∧ H = [.cells cs 5 false]) 66 ?_ ?_
    · refine Into.weak [0] _ _ ⟨0, by omega, rfl, rfl, rfl⟩ ⟨rfl, congrArg (fun z => some (V.a (A.slc 0 0 z cap))) (show (66 : Nat) = n + 66 by omega), rfl, trivial⟩ ⟨ren_fv hcs _ _ _, trivial⟩ ?_
      simp [nodupb, baseb, Ob.okb, frmOk, V.okb, A.okb, all_fv hcs] <;> decide
    · rintro m F H ⟨j, hj, rfl, rfl, rfl⟩
      conv => whnf
      refine condm_of (fun h => ?_) (fun h => ?_)
      · have hj66 : j < 66 := by have := of_decide_eq_true h; omega
        have e4 : IntKind.i64.wrap (↑j + 1) = ((j + 1 : Nat) : Int) := by rw [i64w (by omega) (by omega)]; rfl
        have e5 : IntKind.u8.wrap (IntKind.i64.wrap (150 + ↑j)) = ((UInt8.ofNat (150 + j)).toNat : Int) := by
          rw [i64w (by omega) (by omega), wrap8, show (150 + (j : Int)) = ((150 + j : Nat) : Int) by omega, b8_ofNat]
        have e6 : IntKind.i64.wrap (0 + ↑j) = ((n + j : Nat) : Int) := by rw [i64w (by omega) (by omega)]; omega
        have hg : cs[0 + ((n + j : Nat) : Int).toNat * Try.prog.types[5].size]? = some (.int .u8 ((UInt8.ofNat (150 + j)).toNat : Int)) := by
          have hlt : n + j < (L ++ (marks 66 ++ y)).length := by rw [List.length_append, List.length_append, marks_length]; omega
          rw [s5, Int.toNat_natCast, Nat.mul_one, Nat.zero_add, fv_get hcs hlt]
          have : (L ++ (marks 66 ++ y))[n + j]? = some (UInt8.ofNat (150 + j)) := by
            rw [List.getElem?_append_right (by omega), show n + j - L.length = j by omega, List.getElem?_append_left (by rw [marks_length]; omega), marks_get hj66]
          rw [List.getElem?_eq_getElem hlt] at this
          injection this with this
          rw [this]
        generalize UInt8.ofNat (150 + j) = b at *
        conv => whnf
        rw [e6]
        repeat' (first
          | ((with_reducible refine optm_of hg ?_); conv => whnf)
          | ((with_reducible refine regx_of ?_ ?_); (· decide +kernel); conv => whnf)
          | ((with_reducible refine growx_pre ?_ ?_); (· exact ⟨_, rfl⟩); conv => whnf)
          | ((with_reducible refine needm_of ?_ ?_); (· first | assumption | exact decide_eq_true (by omega) | exact mkOK_of (by decide) | decide +kernel | (refine decide_eq_true ?_; simp (disch := omega) only [i64w]; omega)); conv => whnf)
          | ((with_reducible refine condm_pos ?_ ?_); (· assumption); conv => whnf)
          | ((with_reducible refine condm_neg ?_ ?_); (· assumption); conv => whnf)
          | ((with_reducible refine forceL_fv (by assumption) ?_); conv => whnf)
          | ((with_reducible refine forceL_rfv (by assumption) ?_); conv => whnf)
          | ((with_reducible refine forceNm_of ?_); conv => whnf)
          | ((with_reducible refine needm_of (fv_lenL (by assumption) (by assumption)) ?_); conv => whnf)
          | ((with_reducible refine optm_var (fv_strL (by assumption) (by assumption)) (fun s hs => ?_)); conv => whnf)
          | ((with_reducible refine forceA_of ?_); conv => whnf)
          | ((with_reducible refine forceL_fw (by assumption) ?_); conv => whnf)
          | ((with_reducible refine forceL_rfw (by assumption) ?_); conv => whnf)
          | ((with_reducible refine forceL_fl (by assumption) ?_); conv => whnf)
          | ((with_reducible refine forceL_rfl (by assumption) ?_); conv => whnf)
          | fail)
        refine condm_neg (by rw [e5]; simp) ?_
        conv => whnf
        repeat' (first
          | ((with_reducible refine regx_of ?_ ?_); (· decide +kernel); conv => whnf)
          | ((with_reducible refine growx_pre ?_ ?_); (· exact ⟨_, rfl⟩); conv => whnf)
          | ((with_reducible refine needm_of ?_ ?_); (· first | assumption | exact decide_eq_true (by omega) | exact mkOK_of (by decide) | decide +kernel | (refine decide_eq_true ?_; simp (disch := omega) only [i64w]; omega)); conv => whnf)
          | ((with_reducible refine condm_pos ?_ ?_); (· assumption); conv => whnf)
          | ((with_reducible refine condm_neg ?_ ?_); (· assumption); conv => whnf)
          | ((with_reducible refine forceL_fv (by assumption) ?_); conv => whnf)
          | ((with_reducible refine forceL_rfv (by assumption) ?_); conv => whnf)
          | ((with_reducible refine forceNm_of ?_); conv => whnf)
          | ((with_reducible refine needm_of (fv_lenL (by assumption) (by assumption)) ?_); conv => whnf)
          | ((with_reducible refine optm_var (fv_strL (by assumption) (by assumption)) (fun s hs => ?_)); conv => whnf)
          | ((with_reducible refine forceA_of ?_); conv => whnf)
          | ((with_reducible refine forceL_fw (by assumption) ?_); conv => whnf)
          | ((with_reducible refine forceL_rfw (by assumption) ?_); conv => whnf)
          | ((with_reducible refine forceL_fl (by assumption) ?_); conv => whnf)
          | ((with_reducible refine forceL_rfl (by assumption) ?_); conv => whnf)
          | fail)
        refine ⟨66 - (j + 1), by omega, Into.weak [0] _ _ ⟨j + 1, by omega, rfl, rfl, rfl⟩ ⟨rfl, rfl, congrArg (fun z => some (V.a (.int .i64 z))) e4, trivial⟩ ⟨ren_fv hcs _ _ _, trivial⟩ ?_⟩
        simp [nodupb, baseb, Ob.okb, frmOk, V.okb, A.okb, all_fv hcs] <;> decide
      · conv => whnf
        exact keepOf [.cells cs 5 false] [0] rfl ⟨ren_fv hcs _ _ _, trivial⟩ (by simp [nodupb, baseb, Ob.okb, frmOk, V.okb, A.okb, all_fv hcs] <;> decide) hK
  · conv => whnf
    repeat' (first
      | ((with_reducible refine regx_of ?_ ?_); (· decide +kernel); conv => whnf)
      | ((with_reducible refine growx_pre ?_ ?_); (· exact ⟨_, rfl⟩); conv => whnf)
      | ((with_reducible refine needm_of ?_ ?_); (· first | assumption | exact decide_eq_true (by omega) | exact mkOK_of (by decide) | decide +kernel | (refine decide_eq_true ?_; simp (disch := omega) only [i64w]; omega)); conv => whnf)
      | ((with_reducible refine condm_pos ?_ ?_); (· assumption); conv => whnf)
      | ((with_reducible refine condm_neg ?_ ?_); (· assumption); conv => whnf)
      | ((with_reducible refine forceL_fv (by assumption) ?_); conv => whnf)
      | ((with_reducible refine forceL_rfv (by assumption) ?_); conv => whnf)
      | ((with_reducible refine forceNm_of ?_); conv => whnf)
      | ((with_reducible refine needm_of (fv_lenL (by assumption) (by assumption)) ?_); conv => whnf)
      | ((with_reducible refine optm_var (fv_strL (by assumption) (by assumption)) (fun s hs => ?_)); conv => whnf)
      | ((with_reducible refine forceA_of ?_); conv => whnf)
      | ((with_reducible refine forceL_fw (by assumption) ?_); conv => whnf)
      | ((with_reducible refine forceL_rfw (by assumption) ?_); conv => whnf)
      | ((with_reducible refine forceL_fl (by assumption) ?_); conv => whnf)
      | ((with_reducible refine forceL_rfl (by assumption) ?_); conv => whnf)
      | fail)
    refine ⟨u8s L, by simp, hro, ?_⟩
    conv => whnf
    repeat' (first
      | ((with_reducible refine regx_of ?_ ?_); (· decide +kernel); conv => whnf)
      | ((with_reducible refine growx_pre ?_ ?_); (· exact ⟨_, rfl⟩); conv => whnf)
      | ((with_reducible refine needm_of ?_ ?_); (· first | assumption | exact decide_eq_true (by omega) | exact mkOK_of (by decide) | decide +kernel | (refine decide_eq_true ?_; simp (disch := omega) only [i64w]; omega)); conv => whnf)
      | ((with_reducible refine condm_pos ?_ ?_); (· assumption); conv => whnf)
      | ((with_reducible refine condm_neg ?_ ?_); (· assumption); conv => whnf)
      | ((with_reducible refine forceL_fv (by assumption) ?_); conv => whnf)
      | ((with_reducible refine forceL_rfv (by assumption) ?_); conv => whnf)
      | ((with_reducible refine forceNm_of ?_); conv => whnf)
      | ((with_reducible refine needm_of (fv_lenL (by assumption) (by assumption)) ?_); conv => whnf)
      | ((with_reducible refine optm_var (fv_strL (by assumption) (by assumption)) (fun s hs => ?_)); conv => whnf)
      | ((with_reducible refine forceA_of ?_); conv => whnf)
      | ((with_reducible refine forceL_fw (by assumption) ?_); conv => whnf)
      | ((with_reducible refine forceL_rfw (by assumption) ?_); conv => whnf)
      | ((with_reducible refine forceL_fl (by assumption) ?_); conv => whnf)
      | ((with_reducible refine forceL_rfl (by assumption) ?_); conv => whnf)
      | ((with_reducible refine optm_var (bytesOf_u8s L) (fun s2 hs2 => ?_)); conv => whnf)
      | fail)
    refine condm_neg (by rw [hs, hs2]; simp) ?_
    conv => whnf
    repeat' (first
      | ((with_reducible refine regx_of ?_ ?_); (· decide +kernel); conv => whnf)
      | ((with_reducible refine growx_pre ?_ ?_); (· exact ⟨_, rfl⟩); conv => whnf)
      | ((with_reducible refine needm_of ?_ ?_); (· first | assumption | exact decide_eq_true (by omega) | exact mkOK_of (by decide) | decide +kernel | (refine decide_eq_true ?_; simp (disch := omega) only [i64w]; omega)); conv => whnf)
      | ((with_reducible refine condm_pos ?_ ?_); (· assumption); conv => whnf)
      | ((with_reducible refine condm_neg ?_ ?_); (· assumption); conv => whnf)
      | ((with_reducible refine forceL_fv (by assumption) ?_); conv => whnf)
      | ((with_reducible refine forceL_rfv (by assumption) ?_); conv => whnf)
      | ((with_reducible refine forceNm_of ?_); conv => whnf)
      | ((with_reducible refine needm_of (fv_lenL (by assumption) (by assumption)) ?_); conv => whnf)
      | ((with_reducible refine optm_var (fv_strL (by assumption) (by assumption)) (fun s hs => ?_)); conv => whnf)
      | ((with_reducible refine forceA_of ?_); conv => whnf)
      | ((with_reducible refine forceL_fw (by assumption) ?_); conv => whnf)
      | ((with_reducible refine forceL_rfw (by assumption) ?_); conv => whnf)
      | ((with_reducible refine forceL_fl (by assumption) ?_); conv => whnf)
      | ((with_reducible refine forceL_rfl (by assumption) ?_); conv => whnf)
      | fail)
    have e66 : IntKind.i64.wrap ((L.length : Int) + 66) = ((n + 66 : Nat) : Int) := by rw [i64w (by omega) (by omega)]; omega
    rw [e66]
    have e0 : (if cap = 0 then 0 else 0 + 0 * Try.prog.types[5].size) = 0 := by split <;> simp
    rw [e0]
    refine loopx_of (fun m F H => ∃ j : Nat, j ≤ 66 ∧ m = 66 - j ∧ F = [(1, .a (.rslc p L.length cap₀)), (5, .a (.slc 0 0 (n + 66) cap)), (6, .a (.int .i64 j))] ∧ H = [.cells cs 5 false]) 66 ?_ ?_
    · refine Into.weak [0] _ _ ⟨0, by omega, rfl, rfl, rfl⟩ ⟨rfl, rfl, rfl, trivial⟩ ⟨ren_fv hcs _ _ _, trivial⟩ ?_
      simp [nodupb, baseb, Ob.okb, frmOk, V.okb, A.okb, all_fv hcs] <;> decide
    · rintro m F H ⟨j, hj, rfl, rfl, rfl⟩
      conv => whnf
      refine condm_of (fun h => ?_) (fun h => ?_)
      · have hj66 : j < 66 := by have := of_decide_eq_true h; omega
        have e4 : IntKind.i64.wrap (↑j + 1) = ((j + 1 : Nat) : Int) := by rw [i64w (by omega) (by omega)]; rfl
        have e5 : IntKind.u8.wrap (IntKind.i64.wrap (150 + ↑j)) = ((UInt8.ofNat (150 + j)).toNat : Int) := by
          rw [i64w (by omega) (by omega), wrap8, show (150 + (j : Int)) = ((150 + j : Nat) : Int) by omega, b8_ofNat]
        have e6 : IntKind.i64.wrap (↑L.length + ↑j) = ((n + j : Nat) : Int) := by rw [i64w (by omega) (by omega)]; omega
        have hg : cs[0 + ((n + j : Nat) : Int).toNat * Try.prog.types[5].size]? = some (.int .u8 ((UInt8.ofNat (150 + j)).toNat : Int)) := by
          have hlt : n + j < (L ++ (marks 66 ++ y)).length := by rw [List.length_append, List.length_append, marks_length]; omega
          rw [s5, Int.toNat_natCast, Nat.mul_one, Nat.zero_add, fv_get hcs hlt]
          have : (L ++ (marks 66 ++ y))[n + j]? = some (UInt8.ofNat (150 + j)) := by
            rw [List.getElem?_append_right (by omega), show n + j - L.length = j by omega, List.getElem?_append_left (by rw [marks_length]; omega), marks_get hj66]
          rw [List.getElem?_eq_getElem hlt] at this
          injection this with this
          rw [this]
        generalize UInt8.ofNat (150 + j) = b at *
        conv => whnf
        rw [e6]
        repeat' (first
          | ((with_reducible refine optm_of hg ?_); conv => whnf)
          | ((with_reducible refine regx_of ?_ ?_); (· decide +kernel); conv => whnf)
          | ((with_reducible refine growx_pre ?_ ?_); (· exact ⟨_, rfl⟩); conv => whnf)
          | ((with_reducible refine needm_of ?_ ?_); (· first | assumption | exact decide_eq_true (by omega) | exact mkOK_of (by decide) | decide +kernel | (refine decide_eq_true ?_; simp (disch := omega) only [i64w]; omega)); conv => whnf)
          | ((with_reducible refine condm_pos ?_ ?_); (· assumption); conv => whnf)
          | ((with_reducible refine condm_neg ?_ ?_); (· assumption); conv => whnf)
          | ((with_reducible refine forceL_fv (by assumption) ?_); conv => whnf)
          | ((with_reducible refine forceL_rfv (by assumption) ?_); conv => whnf)
          | ((with_reducible refine forceNm_of ?_); conv => whnf)
          | ((with_reducible refine needm_of (fv_lenL (by assumption) (by assumption)) ?_); conv => whnf)
          | ((with_reducible refine optm_var (fv_strL (by assumption) (by assumption)) (fun s hs => ?_)); conv => whnf)
          | ((with_reducible refine forceA_of ?_); conv => whnf)
          | ((with_reducible refine forceL_fw (by assumption) ?_); conv => whnf)
          | ((with_reducible refine forceL_rfw (by assumption) ?_); conv => whnf)
          | ((with_reducible refine forceL_fl (by assumption) ?_); conv => whnf)
          | ((with_reducible refine forceL_rfl (by assumption) ?_); conv => whnf)
          | fail)
        refine condm_neg (by rw [e5]; simp) ?_
        conv => whnf
        repeat' (first
          | ((with_reducible refine regx_of ?_ ?_); (· decide +kernel); conv => whnf)
          | ((with_reducible refine growx_pre ?_ ?_); (· exact ⟨_, rfl⟩); conv => whnf)
          | ((with_reducible refine needm_of ?_ ?_); (· first | assumption | exact decide_eq_true (by omega) | exact mkOK_of (by decide) | decide +kernel | (refine decide_eq_true ?_; simp (disch := omega) only [i64w]; omega)); conv => whnf)
          | ((with_reducible refine condm_pos ?_ ?_); (· assumption); conv => whnf)
          | ((with_reducible refine condm_neg ?_ ?_); (· assumption); conv => whnf)
          | ((with_reducible refine forceL_fv (by assumption) ?_); conv => whnf)
          | ((with_reducible refine forceL_rfv (by assumption) ?_); conv => whnf)
          | ((with_reducible refine forceNm_of ?_); conv => whnf)
          | ((with_reducible refine needm_of (fv_lenL (by assumption) (by assumption)) ?_); conv => whnf)
          | ((with_reducible refine optm_var (fv_strL (by assumption) (by assumption)) (fun s hs => ?_)); conv => whnf)
          | ((with_reducible refine forceA_of ?_); conv => whnf)
          | ((with_reducible refine forceL_fw (by assumption) ?_); conv => whnf)
          | ((with_reducible refine forceL_rfw (by assumption) ?_); conv => whnf)
          | ((with_reducible refine forceL_fl (by assumption) ?_); conv => whnf)
          | ((with_reducible refine forceL_rfl (by assumption) ?_); conv => whnf)
          | fail)
        refine ⟨66 - (j + 1), by omega, Into.weak [0] _ _ ⟨j + 1, by omega, rfl, rfl, rfl⟩ ⟨rfl, rfl, congrArg (fun z => some (V.a (.int .i64 z))) e4, trivial⟩ ⟨ren_fv hcs _ _ _, trivial⟩ ?_⟩
        simp [nodupb, baseb, Ob.okb, frmOk, V.okb, A.okb, all_fv hcs] <;> decide
      · conv => whnf
        exact keepOf [.cells cs 5 false] [0] rfl ⟨ren_fv hcs _ _ _, trivial⟩ (by simp [nodupb, baseb, Ob.okb, frmOk, V.okb, A.okb, all_fv hcs] <;> decide) hK
end
end Go.Proofs.Ytglbldhineggaaa.DG
