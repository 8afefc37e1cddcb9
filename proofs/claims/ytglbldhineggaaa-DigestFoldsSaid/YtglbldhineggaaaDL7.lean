import Derived.Test.YtglbldhineggaaaDA
namespace Go.Proofs.Ytglbldhineggaaa.DG
open Go.Eng
set_option maxRecDepth 100000
theorem ren_fb {l : List A} (h : Flat l) (δ : Nat → Nat) (ty : TypeId) (mk : Bool) : (Ob.cells l ty mk).ren δ = Ob.cells l ty mk := by
  simp only [Ob.ren, h.ren δ]
theorem plug_one {δ : Nat → Nat} {d : Nat} {o : Ob} {H : Hp} (hH : H[d]? = some o) (ho : o.ren δ = o) : plugL δ [d] [o] H = H := by
  show H.set d (o.ren δ) ++ [] = H
  rw [ho, List.append_nil]
  obtain ⟨hd, e⟩ := List.getElem?_eq_some_iff.1 hH
  rw [← e, List.set_getElem_self]
theorem take_to {l : List UInt8} {a b : Nat} (h : a ≤ b) : l.take a ++ (l.drop a).take (b - a) = l.take b := by
  rw [← List.take_add]
  congr 1
  omega
theorem ext_to (s : ByteArray) (l : List UInt8) (hl : l = s.data.toList) (i j : Nat) : (s.extract i j).data.toList = (l.drop i).take (j - i) := by
  rw [ByteArray.data_extract, Array.toList_extract, ← hl, List.extract_eq_take_drop]
theorem s3 : Try.prog.types[3].size = 1 := rfl
section
variable {ro : Addr → A → Prop}
set_option maxHeartbeats 400000 in
theorem len36 (T : List UInt8) (n : Nat) (hs : List A) (hhs : HS T n hs) {K : V → Hp → Prop} (hK : K (.a (.int .u64 n)) [.cells hs 68 false]) : Go.Eng.Fn Try.prog ro 36 [.a (.ptr 0 0)] [.cells hs 68 false] K := by
  have hfl := hhs.flat
  obtain ⟨R, hR, hRt, hrow0⟩ := id hhs
  refine Go.Eng.Fn.weak ?_
  refine Go.Eng.Fn.of 1 (gOf []) rfl Try.func36 rfl (Nat.le_of_ble_eq_true rfl) ?_
  conv => whnf
  repeat' (first
    | ((with_reducible refine optm_of (hrow_n hrow0 hR) ?_); conv => whnf)
    | ((with_reducible refine regx_of ?_ ?_); (· decide +kernel); conv => whnf)
    | ((with_reducible refine growx_pre ?_ ?_); (· exact ⟨_, rfl⟩); conv => whnf)
    | ((with_reducible refine needm_of ?_ ?_); (· first | assumption | exact decide_eq_true (by omega) | decide +kernel | (refine decide_eq_true ?_; simp (disch := omega) only [i64w]; omega)); conv => whnf)
    | ((with_reducible refine condm_pos ?_ ?_); (· assumption); conv => whnf)
    | ((with_reducible refine condm_neg ?_ ?_); (· assumption); conv => whnf)
    | ((with_reducible refine forceL_fv (by assumption) ?_); conv => whnf)
    | ((with_reducible refine forceL_rfv (by assumption) ?_); conv => whnf)
    | ((with_reducible refine forceNm_of ?_); conv => whnf)
    | ((with_reducible refine needm_of (fv_lenL (by assumption) (by assumption)) ?_); conv => whnf)
    | ((with_reducible refine optm_var (fv_strL (by assumption) (by assumption)) (fun s hs => ?_)); conv => whnf)
    | ((with_reducible refine forceA_of ?_); conv => whnf)
    | ((with_reducible refine forceL_fw (by assumption) ?_); conv => whnf)
    | ((with_reducible refine forceL_rfw (by assumption) ?_); conv => whnf)
    | ((with_reducible refine forceL_fl (by assumption) ?_); conv => whnf)
    | ((with_reducible refine forceL_rfl (by assumption) ?_); conv => whnf)
    | fail)
  exact keepOf (v₀ := .a (.int .u64 n)) [.cells hs 68 false] [0] rfl ⟨ren_fl hfl _ _ _, trivial⟩ (by simp [nodupb, baseb, Ob.okb, frmOk, V.okb, A.okb, hfl.all]) hK
set_option maxHeartbeats 2000000 in
theorem block21o (s : St) (ss : List A) (hss : ss = u32s s.row) (cs : List A) (L B : List UInt8) (off cap : Nat) {mk : Bool} (hcs : cs = u8s L) (hoff : off + 64 ≤ L.length) (hB : (L.drop off).take 64 = B) {K : V → Hp → Prop}
    (hK : ∀ rs, rs = u32s (blockS s B).row → K (.t [.g rs, .a (.int .i64 0)]) [.cells cs 5 mk]) :
    Go.Eng.Fn Try.prog ro 21 [.g ss, .a (.slc 0 off 64 cap)] [.cells cs 5 mk] K := by
  obtain ⟨z8, hz8⟩ : ∃ zs : List A, zs = [A.int .u32 0, A.int .u32 0, A.int .u32 0, A.int .u32 0, A.int .u32 0, A.int .u32 0, A.int .u32 0, A.int .u32 0] := ⟨_, rfl⟩
  have hy : z8 = u32s (List.replicate 8 0) := by rw [hz8]; unfold u32s; rfl
  obtain ⟨z64, hz64⟩ : ∃ zs : List A, zs = [A.int .u8 0, A.int .u8 0, A.int .u8 0, A.int .u8 0, A.int .u8 0, A.int .u8 0, A.int .u8 0, A.int .u8 0, A.int .u8 0, A.int .u8 0, A.int .u8 0, A.int .u8 0, A.int .u8 0, A.int .u8 0, A.int .u8 0, A.int .u8 0, A.int .u8 0, A.int .u8 0, A.int .u8 0, A.int .u8 0, A.int .u8 0, A.int .u8 0, A.int .u8 0, A.int .u8 0, A.int .u8 0, A.int .u8 0, A.int .u8 0, A.int .u8 0, A.int .u8 0, A.int .u8 0, A.int .u8 0, A.int .u8 0, A.int .u8 0, A.int .u8 0, A.int .u8 0, A.int .u8 0, A.int .u8 0, A.int .u8 0, A.int .u8 0, A.int .u8 0, A.int .u8 0, A.int .u8 0, A.int .u8 0, A.int .u8 0, A.int .u8 0, A.int .u8 0, A.int .u8 0, A.int .u8 0, A.int .u8 0, A.int .u8 0, A.int .u8 0, A.int .u8 0, A.int .u8 0, A.int .u8 0, A.int .u8 0, A.int .u8 0, A.int .u8 0, A.int .u8 0, A.int .u8 0, A.int .u8 0, A.int .u8 0, A.int .u8 0, A.int .u8 0, A.int .u8 0] := ⟨_, rfl⟩
  have hz : z64 = u8s (List.replicate 64 0) := by rw [hz64]; unfold u8s; rfl
  have h64l : z64.length = 64 := by rw [u8s_len hz]; rfl
  have h8l : z8.length = 8 := by rw [fw_len hy]; rfl
  have hsl : ss.length = 8 := by rw [fw_len hss]; rfl
  have hcl : off + 64 ≤ cs.length := by rw [u8s_len hcs]; exact hoff
  have hB64 : B.length = 64 := by rw [← hB, List.length_take, List.length_drop]; omega
  refine Go.Eng.Fn.weak ?_
  refine Go.Eng.Fn.of 1 (gOf []) rfl Try.func21 rfl (Nat.le_of_ble_eq_true rfl) ?_
  conv => whnf
  repeat' (first
    | rw [← hz64]
    | rw [← hz8]
    | ((with_reducible refine regx_of ?_ ?_); (· decide +kernel); conv => whnf)
    | ((with_reducible refine growx_pre ?_ ?_); (· exact ⟨_, rfl⟩); conv => whnf)
    | ((with_reducible refine needm_of ?_ ?_); (· first | assumption | exact decide_eq_true (by omega) | decide +kernel | (refine decide_eq_true ?_; simp (disch := omega) only [i64w]; omega)); conv => whnf)
    | ((with_reducible refine condm_pos ?_ ?_); (· assumption); conv => whnf)
    | ((with_reducible refine condm_neg ?_ ?_); (· assumption); conv => whnf)
    | ((with_reducible refine forceL_fv (by assumption) ?_); conv => whnf)
    | ((with_reducible refine forceL_rfv (by assumption) ?_); conv => whnf)
    | ((with_reducible refine forceNm_of ?_); conv => whnf)
    | ((with_reducible refine needm_of (fv_lenL (by assumption) (by assumption)) ?_); conv => whnf)
    | ((with_reducible refine optm_var (fv_strL (by assumption) (by assumption)) (fun s hs => ?_)); conv => whnf)
    | ((with_reducible refine forceA_of ?_); conv => whnf)
    | ((with_reducible refine forceL_fw (by assumption) ?_); conv => whnf)
    | ((with_reducible refine forceL_rfw (by assumption) ?_); conv => whnf)
    | ((with_reducible refine forceL_fl (by assumption) ?_); conv => whnf)
    | ((with_reducible refine forceL_rfl (by assumption) ?_); conv => whnf)
    | fail)
  try (refine condm_neg (by rfl) ?_; conv => whnf)
  repeat' (first
    | rw [← hz64]
    | rw [← hz8]
    | ((with_reducible refine regx_of ?_ ?_); (· decide +kernel); conv => whnf)
    | ((with_reducible refine growx_pre ?_ ?_); (· exact ⟨_, rfl⟩); conv => whnf)
    | ((with_reducible refine needm_of ?_ ?_); (· first | assumption | exact decide_eq_true (by omega) | decide +kernel | (refine decide_eq_true ?_; simp (disch := omega) only [i64w]; omega)); conv => whnf)
    | ((with_reducible refine condm_pos ?_ ?_); (· assumption); conv => whnf)
    | ((with_reducible refine condm_neg ?_ ?_); (· assumption); conv => whnf)
    | ((with_reducible refine forceL_fv (by assumption) ?_); conv => whnf)
    | ((with_reducible refine forceL_rfv (by assumption) ?_); conv => whnf)
    | ((with_reducible refine forceNm_of ?_); conv => whnf)
    | ((with_reducible refine needm_of (fv_lenL (by assumption) (by assumption)) ?_); conv => whnf)
    | ((with_reducible refine optm_var (fv_strL (by assumption) (by assumption)) (fun s hs => ?_)); conv => whnf)
    | ((with_reducible refine forceA_of ?_); conv => whnf)
    | ((with_reducible refine forceL_fw (by assumption) ?_); conv => whnf)
    | ((with_reducible refine forceL_rfw (by assumption) ?_); conv => whnf)
    | ((with_reducible refine forceL_fl (by assumption) ?_); conv => whnf)
    | ((with_reducible refine forceL_rfl (by assumption) ?_); conv => whnf)
    | fail)
  refine needm_of (decide_eq_true (by rw [s64]; omega)) ?_
  conv => whnf
  refine forceL_var (l' := u8s B) ?_ (fun bs hbs => ?_)
  · rw [hcs, s64, ← hB, u8s_take, u8s_drop, List.drop_take, Nat.add_sub_cancel_left]
  have hbl : bs.length = 64 := by rw [u8s_len hbs]; exact hB64
  conv => whnf
  repeat' (first
    | rw [← hz64]
    | rw [← hz8]
    | ((with_reducible refine regx_of ?_ ?_); (· decide +kernel); conv => whnf)
    | ((with_reducible refine growx_pre ?_ ?_); (· exact ⟨_, rfl⟩); conv => whnf)
    | ((with_reducible refine needm_of ?_ ?_); (· first | assumption | exact decide_eq_true (by omega) | decide +kernel | (refine decide_eq_true ?_; simp (disch := omega) only [i64w]; omega)); conv => whnf)
    | ((with_reducible refine condm_pos ?_ ?_); (· assumption); conv => whnf)
    | ((with_reducible refine condm_neg ?_ ?_); (· assumption); conv => whnf)
    | ((with_reducible refine forceL_fv (by assumption) ?_); conv => whnf)
    | ((with_reducible refine forceL_rfv (by assumption) ?_); conv => whnf)
    | ((with_reducible refine forceNm_of ?_); conv => whnf)
    | ((with_reducible refine needm_of (fv_lenL (by assumption) (by assumption)) ?_); conv => whnf)
    | ((with_reducible refine optm_var (fv_strL (by assumption) (by assumption)) (fun s hs => ?_)); conv => whnf)
    | ((with_reducible refine forceA_of ?_); conv => whnf)
    | ((with_reducible refine forceL_fw (by assumption) ?_); conv => whnf)
    | ((with_reducible refine forceL_rfw (by assumption) ?_); conv => whnf)
    | ((with_reducible refine forceL_fl (by assumption) ?_); conv => whnf)
    | ((with_reducible refine forceL_rfl (by assumption) ?_); conv => whnf)
    | fail)
  refine needm_of (by rw [hbl, h64l]; rfl) ?_
  conv => whnf
  repeat' (first
    | ((with_reducible refine regx_of ?_ ?_); (· decide +kernel); conv => whnf)
    | ((with_reducible refine growx_pre ?_ ?_); (· exact ⟨_, rfl⟩); conv => whnf)
    | ((with_reducible refine needm_of ?_ ?_); (· first | assumption | exact decide_eq_true (by omega) | decide +kernel | (refine decide_eq_true ?_; simp (disch := omega) only [i64w]; omega)); conv => whnf)
    | ((with_reducible refine condm_pos ?_ ?_); (· assumption); conv => whnf)
    | ((with_reducible refine condm_neg ?_ ?_); (· assumption); conv => whnf)
    | ((with_reducible refine forceL_fv (by assumption) ?_); conv => whnf)
    | ((with_reducible refine forceL_rfv (by assumption) ?_); conv => whnf)
    | ((with_reducible refine forceNm_of ?_); conv => whnf)
    | ((with_reducible refine needm_of (fv_lenL (by assumption) (by assumption)) ?_); conv => whnf)
    | ((with_reducible refine optm_var (fv_strL (by assumption) (by assumption)) (fun s hs => ?_)); conv => whnf)
    | ((with_reducible refine forceA_of ?_); conv => whnf)
    | ((with_reducible refine forceL_fw (by assumption) ?_); conv => whnf)
    | ((with_reducible refine forceL_rfw (by assumption) ?_); conv => whnf)
    | ((with_reducible refine forceL_fl (by assumption) ?_); conv => whnf)
    | ((with_reducible refine forceL_rfl (by assumption) ?_); conv => whnf)
    | fail)
  refine forceL_to (store_all (by rw [hbl, h64l])) ?_
  conv => whnf
  repeat' (first
    | ((with_reducible refine regx_of ?_ ?_); (· decide +kernel); conv => whnf)
    | ((with_reducible refine growx_pre ?_ ?_); (· exact ⟨_, rfl⟩); conv => whnf)
    | ((with_reducible refine needm_of ?_ ?_); (· first | assumption | exact decide_eq_true (by omega) | decide +kernel | (refine decide_eq_true ?_; simp (disch := omega) only [i64w]; omega)); conv => whnf)
    | ((with_reducible refine condm_pos ?_ ?_); (· assumption); conv => whnf)
    | ((with_reducible refine condm_neg ?_ ?_); (· assumption); conv => whnf)
    | ((with_reducible refine forceL_fv (by assumption) ?_); conv => whnf)
    | ((with_reducible refine forceL_rfv (by assumption) ?_); conv => whnf)
    | ((with_reducible refine forceNm_of ?_); conv => whnf)
    | ((with_reducible refine needm_of (fv_lenL (by assumption) (by assumption)) ?_); conv => whnf)
    | ((with_reducible refine optm_var (fv_strL (by assumption) (by assumption)) (fun s hs => ?_)); conv => whnf)
    | ((with_reducible refine forceA_of ?_); conv => whnf)
    | ((with_reducible refine forceL_fw (by assumption) ?_); conv => whnf)
    | ((with_reducible refine forceL_rfw (by assumption) ?_); conv => whnf)
    | ((with_reducible refine forceL_fl (by assumption) ?_); conv => whnf)
    | ((with_reducible refine forceL_rfl (by assumption) ?_); conv => whnf)
    | fail)
  refine needm_of (by rw [hsl]; rfl) ?_
  conv => whnf
  refine forceL_to (whole_of (by rw [hsl]; rfl)) ?_
  conv => whnf
  repeat' (first
    | ((with_reducible refine regx_of ?_ ?_); (· decide +kernel); conv => whnf)
    | ((with_reducible refine growx_pre ?_ ?_); (· exact ⟨_, rfl⟩); conv => whnf)
    | ((with_reducible refine needm_of ?_ ?_); (· first | assumption | exact decide_eq_true (by omega) | decide +kernel | (refine decide_eq_true ?_; simp (disch := omega) only [i64w]; omega)); conv => whnf)
    | ((with_reducible refine condm_pos ?_ ?_); (· assumption); conv => whnf)
    | ((with_reducible refine condm_neg ?_ ?_); (· assumption); conv => whnf)
    | ((with_reducible refine forceL_fv (by assumption) ?_); conv => whnf)
    | ((with_reducible refine forceL_rfv (by assumption) ?_); conv => whnf)
    | ((with_reducible refine forceNm_of ?_); conv => whnf)
    | ((with_reducible refine needm_of (fv_lenL (by assumption) (by assumption)) ?_); conv => whnf)
    | ((with_reducible refine optm_var (fv_strL (by assumption) (by assumption)) (fun s hs => ?_)); conv => whnf)
    | ((with_reducible refine forceA_of ?_); conv => whnf)
    | ((with_reducible refine forceL_fw (by assumption) ?_); conv => whnf)
    | ((with_reducible refine forceL_rfw (by assumption) ?_); conv => whnf)
    | ((with_reducible refine forceL_fl (by assumption) ?_); conv => whnf)
    | ((with_reducible refine forceL_rfl (by assumption) ?_); conv => whnf)
    | fail)
  refine Go.Eng.Fn.frame [3] (by simp [V.ren, (Flat.u32 hss).ren, A.ren, dsOf]) (by exact ⟨ren_fv hbs _ _ _, trivial⟩) (by simp [nodupb, V.okb, A.okb, Ob.okb, all_fv hbs, (Flat.u32 hss).all]) (step41 s ss hss bs 0 64 false (Flat.u8 hbs) B (fun j hj => by rw [Nat.zero_add, fv_get hbs (by omega), List.getD_eq_getElem?_getD, List.getElem?_eq_getElem (by omega)]; rfl) (fun rs hrs => ?_))
  have hrl : rs.length = 8 := by rw [fw_len hrs]; rfl
  conv => whnf
  repeat' (first
    | ((with_reducible refine regx_of ?_ ?_); (· decide +kernel); conv => whnf)
    | ((with_reducible refine growx_pre ?_ ?_); (· exact ⟨_, rfl⟩); conv => whnf)
    | ((with_reducible refine needm_of ?_ ?_); (· first | assumption | exact decide_eq_true (by omega) | decide +kernel | (refine decide_eq_true ?_; simp (disch := omega) only [i64w]; omega)); conv => whnf)
    | ((with_reducible refine condm_pos ?_ ?_); (· assumption); conv => whnf)
    | ((with_reducible refine condm_neg ?_ ?_); (· assumption); conv => whnf)
    | ((with_reducible refine forceL_fv (by assumption) ?_); conv => whnf)
    | ((with_reducible refine forceL_rfv (by assumption) ?_); conv => whnf)
    | ((with_reducible refine forceNm_of ?_); conv => whnf)
    | ((with_reducible refine needm_of (fv_lenL (by assumption) (by assumption)) ?_); conv => whnf)
    | ((with_reducible refine optm_var (fv_strL (by assumption) (by assumption)) (fun s hs => ?_)); conv => whnf)
    | ((with_reducible refine forceA_of ?_); conv => whnf)
    | ((with_reducible refine forceL_fw (by assumption) ?_); conv => whnf)
    | ((with_reducible refine forceL_rfw (by assumption) ?_); conv => whnf)
    | ((with_reducible refine forceL_fl (by assumption) ?_); conv => whnf)
    | ((with_reducible refine forceL_rfl (by assumption) ?_); conv => whnf)
    | fail)
  refine needm_of (by rw [hrl, h8l]; rfl) ?_
  conv => whnf
  repeat' (first
    | ((with_reducible refine regx_of ?_ ?_); (· decide +kernel); conv => whnf)
    | ((with_reducible refine growx_pre ?_ ?_); (· exact ⟨_, rfl⟩); conv => whnf)
    | ((with_reducible refine needm_of ?_ ?_); (· first | assumption | exact decide_eq_true (by omega) | decide +kernel | (refine decide_eq_true ?_; simp (disch := omega) only [i64w]; omega)); conv => whnf)
    | ((with_reducible refine condm_pos ?_ ?_); (· assumption); conv => whnf)
    | ((with_reducible refine condm_neg ?_ ?_); (· assumption); conv => whnf)
    | ((with_reducible refine forceL_fv (by assumption) ?_); conv => whnf)
    | ((with_reducible refine forceL_rfv (by assumption) ?_); conv => whnf)
    | ((with_reducible refine forceNm_of ?_); conv => whnf)
    | ((with_reducible refine needm_of (fv_lenL (by assumption) (by assumption)) ?_); conv => whnf)
    | ((with_reducible refine optm_var (fv_strL (by assumption) (by assumption)) (fun s hs => ?_)); conv => whnf)
    | ((with_reducible refine forceA_of ?_); conv => whnf)
    | ((with_reducible refine forceL_fw (by assumption) ?_); conv => whnf)
    | ((with_reducible refine forceL_rfw (by assumption) ?_); conv => whnf)
    | ((with_reducible refine forceL_fl (by assumption) ?_); conv => whnf)
    | ((with_reducible refine forceL_rfl (by assumption) ?_); conv => whnf)
    | fail)
  refine forceL_to (store_all (by rw [hrl, h8l])) ?_
  conv => whnf
  repeat' (first
    | ((with_reducible refine regx_of ?_ ?_); (· decide +kernel); conv => whnf)
    | ((with_reducible refine growx_pre ?_ ?_); (· exact ⟨_, rfl⟩); conv => whnf)
    | ((with_reducible refine needm_of ?_ ?_); (· first | assumption | exact decide_eq_true (by omega) | decide +kernel | (refine decide_eq_true ?_; simp (disch := omega) only [i64w]; omega)); conv => whnf)
    | ((with_reducible refine condm_pos ?_ ?_); (· assumption); conv => whnf)
    | ((with_reducible refine condm_neg ?_ ?_); (· assumption); conv => whnf)
    | ((with_reducible refine forceL_fv (by assumption) ?_); conv => whnf)
    | ((with_reducible refine forceL_rfv (by assumption) ?_); conv => whnf)
    | ((with_reducible refine forceNm_of ?_); conv => whnf)
    | ((with_reducible refine needm_of (fv_lenL (by assumption) (by assumption)) ?_); conv => whnf)
    | ((with_reducible refine optm_var (fv_strL (by assumption) (by assumption)) (fun s hs => ?_)); conv => whnf)
    | ((with_reducible refine forceA_of ?_); conv => whnf)
    | ((with_reducible refine forceL_fw (by assumption) ?_); conv => whnf)
    | ((with_reducible refine forceL_rfw (by assumption) ?_); conv => whnf)
    | ((with_reducible refine forceL_fl (by assumption) ?_); conv => whnf)
    | ((with_reducible refine forceL_rfl (by assumption) ?_); conv => whnf)
    | fail)
  refine needm_of (by rw [hrl]; rfl) ?_
  conv => whnf
  rw [whole_of (by rw [hrl]; rfl)]
  exact keepOf (v₀ := .t [.g rs, .a (.int .i64 0)]) [.cells cs 5 mk] [0] (by simp [V.ren, E.ren, (Flat.u32 hrs).ren, A.ren]) ⟨ren_fv hcs _ _ _, trivial⟩ (by simp [nodupb, baseb, Ob.okb, frmOk, V.okb, E.okb, A.okb, all_fv hcs, (Flat.u32 hrs).all]) (hK rs hrs)
set_option maxHeartbeats 0 in
theorem folds9 (s : ByteArray) (l : List UInt8) (hl : l = s.data.toList) (hbig : l.length ≤ 140737488351232) (y : A) (clen : Nat) (hy : (y = .nils ∧ clen = 0) ∨ ∃ p cap, y = .rslc p clen cap ∧ ∀ i, i < clen → ∃ n : Int, ro (p.add i) (.int .i64 n)) (hcl : clen ≤ 4611686018427387904) :
    Go.Eng.Fn Try.prog ro 9 [.a (.str s), .a y] [] (fun v _ => v = .a (.bool true)) := by
  have hsz : s.size = l.length := by rw [hl, Array.length_toList]; rfl
  obtain ⟨z8, hz8⟩ : ∃ zs : List A, zs = [A.int .u32 0, A.int .u32 0, A.int .u32 0, A.int .u32 0, A.int .u32 0, A.int .u32 0, A.int .u32 0, A.int .u32 0] := ⟨_, rfl⟩
  have hy8 : z8 = u32s (List.replicate 8 0) := by rw [hz8]; unfold u32s; rfl
  have h8l : z8.length = 8 := by rw [fw_len hy8]; rfl
  obtain ⟨z32, hz32⟩ : ∃ zs : List A, zs = [A.int .u8 0, A.int .u8 0, A.int .u8 0, A.int .u8 0, A.int .u8 0, A.int .u8 0, A.int .u8 0, A.int .u8 0, A.int .u8 0, A.int .u8 0, A.int .u8 0, A.int .u8 0, A.int .u8 0, A.int .u8 0, A.int .u8 0, A.int .u8 0, A.int .u8 0, A.int .u8 0, A.int .u8 0, A.int .u8 0, A.int .u8 0, A.int .u8 0, A.int .u8 0, A.int .u8 0, A.int .u8 0, A.int .u8 0, A.int .u8 0, A.int .u8 0, A.int .u8 0, A.int .u8 0, A.int .u8 0, A.int .u8 0] := ⟨_, rfl⟩
  have hz : z32 = u8s (List.replicate 32 0) := by rw [hz32]; unfold u8s; rfl
  have h32l : z32.length = 32 := by rw [u8s_len hz]; rfl
  refine Go.Eng.Fn.of 0 h9 rfl Try.func9 rfl (Nat.le_of_ble_eq_true rfl) ?_
  rcases hy with ⟨rfl, h0⟩ | ⟨p, ccap, rfl, hro⟩
  · conv => whnf
    refine Go.Eng.Fn.frame [] (by rfl) (by exact trivial) (by rfl) (awake37 ?_)
    conv => whnf
    refine Go.Eng.Fn.frame [] (by rfl) (by exact trivial) (by rfl) (new29 (fun hs hhs => ?_))
    have hfl := hhs.flat
    conv => whnf
    repeat' (first
      | ((with_reducible refine regx_of ?_ ?_); (· decide +kernel); conv => whnf)
      | ((with_reducible refine growx_pre ?_ ?_); (· exact ⟨_, rfl⟩); conv => whnf)
      | ((with_reducible refine needm_of ?_ ?_); (· first | assumption | exact decide_eq_true (by omega) | decide +kernel | (refine decide_eq_true ?_; simp (disch := omega) only [i64w]; omega)); conv => whnf)
      | ((with_reducible refine condm_pos ?_ ?_); (· assumption); conv => whnf)
      | ((with_reducible refine condm_neg ?_ ?_); (· assumption); conv => whnf)
      | ((with_reducible refine forceL_fv (by assumption) ?_); conv => whnf)
      | ((with_reducible refine forceL_rfv (by assumption) ?_); conv => whnf)
      | ((with_reducible refine forceNm_of ?_); conv => whnf)
      | ((with_reducible refine needm_of (fv_lenL (by assumption) (by assumption)) ?_); conv => whnf)
      | ((with_reducible refine optm_var (fv_strL (by assumption) (by assumption)) (fun s hs => ?_)); conv => whnf)
      | ((with_reducible refine forceA_of ?_); conv => whnf)
      | ((with_reducible refine forceL_fw (by assumption) ?_); conv => whnf)
      | ((with_reducible refine forceL_rfw (by assumption) ?_); conv => whnf)
      | ((with_reducible refine forceL_fl (by assumption) ?_); conv => whnf)
      | ((with_reducible refine forceL_rfl (by assumption) ?_); conv => whnf)
      | fail)
    refine loopx_of (fun m F H => ∃ (i fr : Nat) (hs : List A), i ≤ clen ∧ m = clen - i ∧ fr ≤ l.length ∧ HS (l.take fr) (fr % 18446744073709551616) hs ∧ F = [(0, .a (.str s)), (1, .a (.nils)), (5, .a (.ptr 0 0)), (6, .a (.int .i64 fr)), (7, .a (.int .i64 i))] ∧ H = [.cells hs 68 false]) clen ?_ ?_
    · refine Into.weak [0] _ _ ⟨0, 0, hs, by omega, rfl, by omega, by simpa using hhs, rfl, rfl⟩ ⟨rfl, rfl, rfl, rfl, rfl, trivial⟩ ⟨ren_fl hfl _ _ _, trivial⟩ ?_
      simp [nodupb, baseb, Ob.okb, frmOk, V.okb, A.okb, hfl.all] <;> decide
    · clear hfl hhs hs
      rintro m F H ⟨i, fr, hs, hi, rfl, hfr, hH, rfl, rfl⟩
      have hfl := hH.flat
      conv => whnf
      conv => whnf
      repeat' (first
        | ((with_reducible refine regx_of ?_ ?_); (· decide +kernel); conv => whnf)
        | ((with_reducible refine growx_pre ?_ ?_); (· exact ⟨_, rfl⟩); conv => whnf)
        | ((with_reducible refine needm_of ?_ ?_); (· first | assumption | exact decide_eq_true (by omega) | decide +kernel | (refine decide_eq_true ?_; simp (disch := omega) only [i64w]; omega)); conv => whnf)
        | ((with_reducible refine condm_pos ?_ ?_); (· assumption); conv => whnf)
        | ((with_reducible refine condm_neg ?_ ?_); (· assumption); conv => whnf)
        | ((with_reducible refine forceL_fv (by assumption) ?_); conv => whnf)
        | ((with_reducible refine forceL_rfv (by assumption) ?_); conv => whnf)
        | ((with_reducible refine forceNm_of ?_); conv => whnf)
        | ((with_reducible refine needm_of (fv_lenL (by assumption) (by assumption)) ?_); conv => whnf)
        | ((with_reducible refine optm_var (fv_strL (by assumption) (by assumption)) (fun s hs => ?_)); conv => whnf)
        | ((with_reducible refine forceA_of ?_); conv => whnf)
        | ((with_reducible refine forceL_fw (by assumption) ?_); conv => whnf)
        | ((with_reducible refine forceL_rfw (by assumption) ?_); conv => whnf)
        | ((with_reducible refine forceL_fl (by assumption) ?_); conv => whnf)
        | ((with_reducible refine forceL_rfl (by assumption) ?_); conv => whnf)
        | fail)
      have hx1 : (s.extract fr s.size).data.toList = l.drop fr := by
        rw [ByteArray.data_extract, Array.toList_extract, ← hl, List.extract_eq_take_drop, List.take_of_length_le (by rw [List.length_drop]; omega)]
      refine Go.Eng.Fn.frame [0] (by rfl) (by exact ⟨ren_fl hfl _ _ _, trivial⟩) (by simp [nodupb, V.okb, A.okb, Ob.okb, hfl.all]) (text32 (l.take fr) (fr % 18446744073709551616) hs _ (l.drop fr) hx1.symm (by rw [List.length_drop]; omega) hH (fun h2 hh2 => ?_))
      rw [List.take_append_drop, List.length_drop, show (fr % 18446744073709551616 + (l.length - fr)) % 18446744073709551616 = l.length % 18446744073709551616 by omega] at hh2
      have hfl2 := hh2.flat
      conv => whnf
      repeat' (first
        | ((with_reducible refine regx_of ?_ ?_); (· decide +kernel); conv => whnf)
        | ((with_reducible refine growx_pre ?_ ?_); (· exact ⟨_, rfl⟩); conv => whnf)
        | ((with_reducible refine needm_of ?_ ?_); (· first | assumption | exact decide_eq_true (by omega) | decide +kernel | (refine decide_eq_true ?_; simp (disch := omega) only [i64w]; omega)); conv => whnf)
        | ((with_reducible refine condm_pos ?_ ?_); (· assumption); conv => whnf)
        | ((with_reducible refine condm_neg ?_ ?_); (· assumption); conv => whnf)
        | ((with_reducible refine forceL_fv (by assumption) ?_); conv => whnf)
        | ((with_reducible refine forceL_rfv (by assumption) ?_); conv => whnf)
        | ((with_reducible refine forceNm_of ?_); conv => whnf)
        | ((with_reducible refine needm_of (fv_lenL (by assumption) (by assumption)) ?_); conv => whnf)
        | ((with_reducible refine optm_var (fv_strL (by assumption) (by assumption)) (fun s hs => ?_)); conv => whnf)
        | ((with_reducible refine forceA_of ?_); conv => whnf)
        | ((with_reducible refine forceL_fw (by assumption) ?_); conv => whnf)
        | ((with_reducible refine forceL_rfw (by assumption) ?_); conv => whnf)
        | ((with_reducible refine forceL_fl (by assumption) ?_); conv => whnf)
        | ((with_reducible refine forceL_rfl (by assumption) ?_); conv => whnf)
        | fail)
      intro cap hcap
      conv => whnf
      obtain ⟨c1, hc10⟩ : ∃ cs, cs = u8s s.data.toList ++ List.replicate (cap - s.size) (A.int .u8 0) := ⟨_, rfl⟩
      have hc1 : c1 = u8s (l ++ List.replicate (cap - s.size) 0) := by rw [hc10, u8s_append, repl_u8', hl]
      rw [← hc10]
      conv => whnf
      repeat' (first
        | ((with_reducible refine regx_of ?_ ?_); (· decide +kernel); conv => whnf)
        | ((with_reducible refine growx_pre ?_ ?_); (· exact ⟨_, rfl⟩); conv => whnf)
        | ((with_reducible refine needm_of ?_ ?_); (· first | assumption | exact decide_eq_true (by omega) | decide +kernel | (refine decide_eq_true ?_; simp (disch := omega) only [i64w]; omega)); conv => whnf)
        | ((with_reducible refine condm_pos ?_ ?_); (· assumption); conv => whnf)
        | ((with_reducible refine condm_neg ?_ ?_); (· assumption); conv => whnf)
        | ((with_reducible refine forceL_fv (by assumption) ?_); conv => whnf)
        | ((with_reducible refine forceL_rfv (by assumption) ?_); conv => whnf)
        | ((with_reducible refine forceNm_of ?_); conv => whnf)
        | ((with_reducible refine needm_of (fv_lenL (by assumption) (by assumption)) ?_); conv => whnf)
        | ((with_reducible refine optm_var (fv_strL (by assumption) (by assumption)) (fun s hs => ?_)); conv => whnf)
        | ((with_reducible refine forceA_of ?_); conv => whnf)
        | ((with_reducible refine forceL_fw (by assumption) ?_); conv => whnf)
        | ((with_reducible refine forceL_rfw (by assumption) ?_); conv => whnf)
        | ((with_reducible refine forceL_fl (by assumption) ?_); conv => whnf)
        | ((with_reducible refine forceL_rfl (by assumption) ?_); conv => whnf)
        | fail)
      rw [u64w, hsz]
      have hpd : l ++ fillS (l.length % 18446744073709551616) = padded l := by unfold padded; rfl
      obtain ⟨kB, hkB, hkB2⟩ := padded_length l
      refine Go.Eng.Fn.frame [] (by rfl) (by exact trivial) (by rfl) (fill13 (l.length % 18446744073709551616) (fun x fs flen fcap hfs hflen hfcap => ?_))
      have hPl : (padded l).length = l.length + flen := by rw [← hpd, List.length_append, hflen]
      generalize fillS (l.length % 18446744073709551616) = Fi at *
      have hfn : List.drop 0 (List.take (0 + flen * Try.prog.types[5].size) fs) = u8s Fi := by
        rw [s5, hfs, List.drop_zero, u8s_take, List.take_append_of_le_length (by omega), List.take_of_length_le (by omega)]
      conv => whnf
      repeat' (first
        | ((with_reducible refine regx_of ?_ ?_); (· decide +kernel); conv => whnf)
        | ((with_reducible refine growx_pre ?_ ?_); (· exact ⟨_, rfl⟩); conv => whnf)
        | ((with_reducible refine needm_of ?_ ?_); (· first | assumption | exact decide_eq_true (by omega) | decide +kernel | (refine decide_eq_true ?_; simp (disch := omega) only [i64w]; omega)); conv => whnf)
        | ((with_reducible refine condm_pos ?_ ?_); (· assumption); conv => whnf)
        | ((with_reducible refine condm_neg ?_ ?_); (· assumption); conv => whnf)
        | ((with_reducible refine forceL_fv (by assumption) ?_); conv => whnf)
        | ((with_reducible refine forceL_rfv (by assumption) ?_); conv => whnf)
        | ((with_reducible refine forceNm_of ?_); conv => whnf)
        | ((with_reducible refine needm_of (fv_lenL (by assumption) (by assumption)) ?_); conv => whnf)
        | ((with_reducible refine optm_var (fv_strL (by assumption) (by assumption)) (fun s hs => ?_)); conv => whnf)
        | ((with_reducible refine forceA_of ?_); conv => whnf)
        | ((with_reducible refine forceL_fw (by assumption) ?_); conv => whnf)
        | ((with_reducible refine forceL_rfw (by assumption) ?_); conv => whnf)
        | ((with_reducible refine forceL_fl (by assumption) ?_); conv => whnf)
        | ((with_reducible refine forceL_rfl (by assumption) ?_); conv => whnf)
        | fail)
      refine needm_of (decide_eq_true (by rw [s5, u8s_len hfs, List.length_append]; omega)) ?_
      conv => whnf
      rw [hfn]
      refine condm_of (fun hc => ?_) (fun hc => ?_)
      · have hc' := of_decide_eq_true hc
        conv => whnf
        refine needm_of (decide_eq_true (by rw [s5, u8s_length, u8s_len hc1, List.length_append, List.length_replicate]; omega)) ?_
        conv => whnf
        repeat' (first
          | ((with_reducible refine regx_of ?_ ?_); (· decide +kernel); conv => whnf)
          | ((with_reducible refine growx_pre ?_ ?_); (· exact ⟨_, rfl⟩); conv => whnf)
          | ((with_reducible refine needm_of ?_ ?_); (· first | assumption | exact decide_eq_true (by omega) | decide +kernel | (refine decide_eq_true ?_; simp (disch := omega) only [i64w]; omega)); conv => whnf)
          | ((with_reducible refine condm_pos ?_ ?_); (· assumption); conv => whnf)
          | ((with_reducible refine condm_neg ?_ ?_); (· assumption); conv => whnf)
          | ((with_reducible refine forceL_fv (by assumption) ?_); conv => whnf)
          | ((with_reducible refine forceL_rfv (by assumption) ?_); conv => whnf)
          | ((with_reducible refine forceNm_of ?_); conv => whnf)
          | ((with_reducible refine needm_of (fv_lenL (by assumption) (by assumption)) ?_); conv => whnf)
          | ((with_reducible refine optm_var (fv_strL (by assumption) (by assumption)) (fun s hs => ?_)); conv => whnf)
          | ((with_reducible refine forceA_of ?_); conv => whnf)
          | ((with_reducible refine forceL_fw (by assumption) ?_); conv => whnf)
          | ((with_reducible refine forceL_rfw (by assumption) ?_); conv => whnf)
          | ((with_reducible refine forceL_fl (by assumption) ?_); conv => whnf)
          | ((with_reducible refine forceL_rfl (by assumption) ?_); conv => whnf)
          | fail)
        refine forceL_var (l' := u8s (padded l ++ List.replicate (cap - s.size - flen) 0)) ?_ (fun cs2 hcs2 => ?_)
        · rw [hc1, s5, Nat.zero_add, Nat.mul_one, storeL_u8 _ _ _ (by rw [List.length_append, List.length_replicate]; omega), List.take_left' rfl, hpd]
          congr 1
          rw [List.append_cancel_left_eq, ← hflen, List.drop_append, List.drop_of_length_le (by omega), List.nil_append, List.drop_replicate, show cap - s.size - (l.length + flen - l.length) = cap - s.size - flen by omega]
        generalize hbl : l.length + flen = bl at *
        have d1 : ((bl : Int).tmod 64 != 0) = false := by
          rw [show (64 : Int) = ((64 : Nat) : Int) from rfl, tmodN, show bl % 64 = 0 by omega]
          rfl
        have d2 : decide ((bl : Int) < IntKind.i64.wrap ((s.size : Int) + 9)) = false := by
          rw [hsz, i64w (by omega) (by omega)]
          exact decide_eq_false (by omega)
        have d3 : decide ((bl : Int) > IntKind.i64.wrap ((s.size : Int) + 72)) = false := by
          rw [hsz, i64w (by omega) (by omega)]
          exact decide_eq_false (by omega)
        rw [hsz] at d2 d3
        conv => whnf
        repeat' (first
          | rw [hsz]
          | ((with_reducible refine regx_of ?_ ?_); (· decide +kernel); conv => whnf)
          | ((with_reducible refine growx_pre ?_ ?_); (· exact ⟨_, rfl⟩); conv => whnf)
          | ((with_reducible refine needm_of ?_ ?_); (· first | assumption | exact decide_eq_true (by omega) | decide +kernel | (refine decide_eq_true ?_; simp (disch := omega) only [i64w]; omega)); conv => whnf)
          | ((with_reducible refine condm_pos ?_ ?_); (· assumption); conv => whnf)
          | ((with_reducible refine condm_neg ?_ ?_); (· assumption); conv => whnf)
          | ((with_reducible refine forceL_fv (by assumption) ?_); conv => whnf)
          | ((with_reducible refine forceL_rfv (by assumption) ?_); conv => whnf)
          | ((with_reducible refine forceNm_of ?_); conv => whnf)
          | ((with_reducible refine needm_of (fv_lenL (by assumption) (by assumption)) ?_); conv => whnf)
          | ((with_reducible refine optm_var (fv_strL (by assumption) (by assumption)) (fun s hs => ?_)); conv => whnf)
          | ((with_reducible refine forceA_of ?_); conv => whnf)
          | ((with_reducible refine forceL_fw (by assumption) ?_); conv => whnf)
          | ((with_reducible refine forceL_rfw (by assumption) ?_); conv => whnf)
          | ((with_reducible refine forceL_fl (by assumption) ?_); conv => whnf)
          | ((with_reducible refine forceL_rfl (by assumption) ?_); conv => whnf)
          | fail)
        refine Go.Eng.Fn.frame [] (by rfl) (by exact trivial) (by rfl) (start23 (fun ks hks => ?_))
        have hks' : ks = u32s s0.row := by rw [hks]; unfold u32s; rfl
        clear hks
        have hkl : ks.length = 8 := by rw [fw_len hks']; rfl
        conv => whnf
        repeat' (first
          | rw [← hz8]
          | ((with_reducible refine regx_of ?_ ?_); (· decide +kernel); conv => whnf)
          | ((with_reducible refine growx_pre ?_ ?_); (· exact ⟨_, rfl⟩); conv => whnf)
          | ((with_reducible refine needm_of ?_ ?_); (· first | assumption | exact decide_eq_true (by omega) | decide +kernel | (refine decide_eq_true ?_; simp (disch := omega) only [i64w]; omega)); conv => whnf)
          | ((with_reducible refine condm_pos ?_ ?_); (· assumption); conv => whnf)
          | ((with_reducible refine condm_neg ?_ ?_); (· assumption); conv => whnf)
          | ((with_reducible refine forceL_fv (by assumption) ?_); conv => whnf)
          | ((with_reducible refine forceL_rfv (by assumption) ?_); conv => whnf)
          | ((with_reducible refine forceNm_of ?_); conv => whnf)
          | ((with_reducible refine needm_of (fv_lenL (by assumption) (by assumption)) ?_); conv => whnf)
          | ((with_reducible refine optm_var (fv_strL (by assumption) (by assumption)) (fun s hs => ?_)); conv => whnf)
          | ((with_reducible refine forceA_of ?_); conv => whnf)
          | ((with_reducible refine forceL_fw (by assumption) ?_); conv => whnf)
          | ((with_reducible refine forceL_rfw (by assumption) ?_); conv => whnf)
          | ((with_reducible refine forceL_fl (by assumption) ?_); conv => whnf)
          | ((with_reducible refine forceL_rfl (by assumption) ?_); conv => whnf)
          | fail)
        refine needm_of (by rw [hkl, h8l]; rfl) ?_
        conv => whnf
        repeat' (first
          | ((with_reducible refine regx_of ?_ ?_); (· decide +kernel); conv => whnf)
          | ((with_reducible refine growx_pre ?_ ?_); (· exact ⟨_, rfl⟩); conv => whnf)
          | ((with_reducible refine needm_of ?_ ?_); (· first | assumption | exact decide_eq_true (by omega) | decide +kernel | (refine decide_eq_true ?_; simp (disch := omega) only [i64w]; omega)); conv => whnf)
          | ((with_reducible refine condm_pos ?_ ?_); (· assumption); conv => whnf)
          | ((with_reducible refine condm_neg ?_ ?_); (· assumption); conv => whnf)
          | ((with_reducible refine forceL_fv (by assumption) ?_); conv => whnf)
          | ((with_reducible refine forceL_rfv (by assumption) ?_); conv => whnf)
          | ((with_reducible refine forceNm_of ?_); conv => whnf)
          | ((with_reducible refine needm_of (fv_lenL (by assumption) (by assumption)) ?_); conv => whnf)
          | ((with_reducible refine optm_var (fv_strL (by assumption) (by assumption)) (fun s hs => ?_)); conv => whnf)
          | ((with_reducible refine forceA_of ?_); conv => whnf)
          | ((with_reducible refine forceL_fw (by assumption) ?_); conv => whnf)
          | ((with_reducible refine forceL_rfw (by assumption) ?_); conv => whnf)
          | ((with_reducible refine forceL_fl (by assumption) ?_); conv => whnf)
          | ((with_reducible refine forceL_rfl (by assumption) ?_); conv => whnf)
          | fail)
        refine forceL_to (store_all (by rw [hkl, h8l])) ?_
        conv => whnf
        repeat' (first
          | ((with_reducible refine regx_of ?_ ?_); (· decide +kernel); conv => whnf)
          | ((with_reducible refine growx_pre ?_ ?_); (· exact ⟨_, rfl⟩); conv => whnf)
          | ((with_reducible refine needm_of ?_ ?_); (· first | assumption | exact decide_eq_true (by omega) | decide +kernel | (refine decide_eq_true ?_; simp (disch := omega) only [i64w]; omega)); conv => whnf)
          | ((with_reducible refine condm_pos ?_ ?_); (· assumption); conv => whnf)
          | ((with_reducible refine condm_neg ?_ ?_); (· assumption); conv => whnf)
          | ((with_reducible refine forceL_fv (by assumption) ?_); conv => whnf)
          | ((with_reducible refine forceL_rfv (by assumption) ?_); conv => whnf)
          | ((with_reducible refine forceNm_of ?_); conv => whnf)
          | ((with_reducible refine needm_of (fv_lenL (by assumption) (by assumption)) ?_); conv => whnf)
          | ((with_reducible refine optm_var (fv_strL (by assumption) (by assumption)) (fun s hs => ?_)); conv => whnf)
          | ((with_reducible refine forceA_of ?_); conv => whnf)
          | ((with_reducible refine forceL_fw (by assumption) ?_); conv => whnf)
          | ((with_reducible refine forceL_rfw (by assumption) ?_); conv => whnf)
          | ((with_reducible refine forceL_fl (by assumption) ?_); conv => whnf)
          | ((with_reducible refine forceL_rfl (by assumption) ?_); conv => whnf)
          | fail)
        have hdg : digest l = outB (blk kB (padded l)) := by unfold digest; rw [hkB, Nat.mul_div_cancel_left _ (by decide)]
        generalize hPd : padded l = Pd at *
        refine loopx_of (fun m F H => ∃ (k : Nat) (ss : List A), k ≤ kB ∧ m = kB - k ∧ ss = u32s (blk k Pd).row ∧ F = [(0, .a (.str s)), (5, .a (.ptr 0 0)), (9, .a (.slc 1 0 bl cap)), (10, .a (.ptr 2 0)), (11, .a (.int .i64 (64 * k : Nat)))] ∧ H = [.cells h2 68 false, .cells cs2 5 true, .cells ss 33 false]) kB ?_ ?_
        · refine Into.weak [0, 1, 3] _ _ ⟨0, ks, by omega, rfl, by rw [blk_0]; exact hks', rfl, rfl⟩ ⟨rfl, rfl, rfl, rfl, rfl, trivial⟩ ⟨ren_fl hfl2 _ _ _, ren_fv hcs2 _ _ _, ren_fw hks' _ _ _, trivial⟩ ?_
          simp [nodupb, baseb, Ob.okb, frmOk, V.okb, A.okb, hfl2.all, all_fv hcs2, all_fw hks'] <;> decide
        · clear hks' hkl ks
          rintro m F H ⟨k, ss, hk, rfl, hss, rfl, rfl⟩
          have hsl : ss.length = 8 := by rw [fw_len hss]; rfl
          conv => whnf
          refine condm_of (fun h => ?_) (fun h => ?_)
          · have hkk : k < kB := by have := of_decide_eq_true h; omega
            have e4 : IntKind.i64.wrap (((64 * k : Nat) : Int) + 64) = ((64 * (k + 1) : Nat) : Int) := by rw [i64w (by omega) (by omega)]; omega
            have hbs := blk_succ k Pd
            conv => whnf
            repeat' (first
              | rw [← hz8]
              | rw [e4]
              | ((with_reducible refine regx_of ?_ ?_); (· decide +kernel); conv => whnf)
              | ((with_reducible refine growx_pre ?_ ?_); (· exact ⟨_, rfl⟩); conv => whnf)
              | ((with_reducible refine needm_of ?_ ?_); (· first | assumption | exact decide_eq_true (by omega) | decide +kernel | (refine decide_eq_true ?_; simp (disch := omega) only [i64w]; omega)); conv => whnf)
              | ((with_reducible refine condm_pos ?_ ?_); (· assumption); conv => whnf)
              | ((with_reducible refine condm_neg ?_ ?_); (· assumption); conv => whnf)
              | ((with_reducible refine forceL_fv (by assumption) ?_); conv => whnf)
              | ((with_reducible refine forceL_rfv (by assumption) ?_); conv => whnf)
              | ((with_reducible refine forceNm_of ?_); conv => whnf)
              | ((with_reducible refine needm_of (fv_lenL (by assumption) (by assumption)) ?_); conv => whnf)
              | ((with_reducible refine optm_var (fv_strL (by assumption) (by assumption)) (fun s hs => ?_)); conv => whnf)
              | ((with_reducible refine forceA_of ?_); conv => whnf)
              | ((with_reducible refine forceL_fw (by assumption) ?_); conv => whnf)
              | ((with_reducible refine forceL_rfw (by assumption) ?_); conv => whnf)
              | ((with_reducible refine forceL_fl (by assumption) ?_); conv => whnf)
              | ((with_reducible refine forceL_rfl (by assumption) ?_); conv => whnf)
              | fail)
            refine needm_of (by rw [hsl]; rfl) ?_
            conv => whnf
            refine forceL_to (whole_of (by rw [hsl]; rfl)) ?_
            conv => whnf
            have es : (if cap = (((64 * k : Nat) : Int)).toNat then 0 else 0 + (((64 * k : Nat) : Int)).toNat * Try.prog.types[5].size) = 64 * k := by
              rw [Int.toNat_natCast, if_neg (by omega), s5]; omega
            have el : (((64 * (k + 1) : Nat) : Int)).toNat - (((64 * k : Nat) : Int)).toNat = 64 := by
              rw [Int.toNat_natCast, Int.toNat_natCast]; omega
            repeat' (first
              | rw [← hz8]
              | rw [e4]
              | rw [es]
              | rw [el]
              | ((with_reducible refine regx_of ?_ ?_); (· decide +kernel); conv => whnf)
              | ((with_reducible refine growx_pre ?_ ?_); (· exact ⟨_, rfl⟩); conv => whnf)
              | ((with_reducible refine needm_of ?_ ?_); (· first | assumption | exact decide_eq_true (by omega) | decide +kernel | (refine decide_eq_true ?_; simp (disch := omega) only [i64w]; omega)); conv => whnf)
              | ((with_reducible refine condm_pos ?_ ?_); (· assumption); conv => whnf)
              | ((with_reducible refine condm_neg ?_ ?_); (· assumption); conv => whnf)
              | ((with_reducible refine forceL_fv (by assumption) ?_); conv => whnf)
              | ((with_reducible refine forceL_rfv (by assumption) ?_); conv => whnf)
              | ((with_reducible refine forceNm_of ?_); conv => whnf)
              | ((with_reducible refine needm_of (fv_lenL (by assumption) (by assumption)) ?_); conv => whnf)
              | ((with_reducible refine optm_var (fv_strL (by assumption) (by assumption)) (fun s hs => ?_)); conv => whnf)
              | ((with_reducible refine forceA_of ?_); conv => whnf)
              | ((with_reducible refine forceL_fw (by assumption) ?_); conv => whnf)
              | ((with_reducible refine forceL_rfw (by assumption) ?_); conv => whnf)
              | ((with_reducible refine forceL_fl (by assumption) ?_); conv => whnf)
              | ((with_reducible refine forceL_rfl (by assumption) ?_); conv => whnf)
              | ((with_reducible refine And.intro ?_ ?_) <;> (conv => whnf))
              | ((refine Go.Eng.Fn.frame [1] (by simp [V.ren, (Flat.u32 hss).ren, A.ren, dsOf]) (by exact ⟨ren_fv hcs2 _ _ _, trivial⟩) (by simp [nodupb, V.okb, A.okb, Ob.okb, all_fv hcs2, (Flat.u32 hss).all]) (block21o (blk k Pd) ss hss cs2 _ ((Pd.drop (64 * k)).take 64) (64 * k) (cap - (((64 * k : Nat) : Int)).toNat) hcs2 (by rw [List.length_append]; omega) (by rw [List.drop_append_of_le_length (by omega), List.take_append_of_le_length (by rw [List.length_drop]; omega)]) (fun rs hrs => ?_))); rw [← hbs] at hrs; (have hrl : rs.length = 8 := by rw [fw_len hrs]; rfl); conv => whnf)
              | ((refine growx_pre ⟨[], by rw [List.append_nil]; exact (plug_one rfl (ren_fb (Flat.u8 hcs2) _ _ _)).symm⟩ ?_); conv => whnf)
              | ((with_reducible refine needm_of ?_ ?_); (· first | (rw [hrl, h8l]; rfl) | (rw [hrl, hsl]; rfl) | (rw [hrl]; rfl)); conv => whnf)
              | ((with_reducible refine forceL_to (whole_of ?_) ?_); (· rw [hrl]; rfl); conv => whnf)
              | ((with_reducible refine forceL_to (store_all ?_) ?_); (· first | rw [hrl, h8l] | rw [hrl, hsl]); conv => whnf)
              | fail)
            all_goals first
              | (refine ⟨kB - (k + 1), by omega, Into.weak [0, 1, 2] _ _ ⟨k + 1, rs, by omega, rfl, hrs, rfl, rfl⟩ ⟨rfl, rfl, rfl, rfl, rfl, trivial⟩ ⟨ren_fl hfl2 _ _ _, ren_fv hcs2 _ _ _, ren_fw hrs _ _ _, trivial⟩ ?_⟩; simp [nodupb, baseb, Ob.okb, frmOk, V.okb, A.okb, hfl2.all, all_fv hcs2, all_fw hrs] <;> decide)
              | exact ⟨[], by rw [List.append_nil]; exact (plug_one rfl (ren_fb (Flat.u8 hcs2) _ _ _)).symm⟩
          · have hkk : k = kB := by have := of_decide_eq_false h; omega
            rw [hkk] at hss
            generalize blk kB Pd = S at *
            conv => whnf
            repeat' (first
              | rw [← hz32]
              | ((with_reducible refine regx_of ?_ ?_); (· decide +kernel); conv => whnf)
              | ((with_reducible refine growx_pre ?_ ?_); (· exact ⟨_, rfl⟩); conv => whnf)
              | ((with_reducible refine needm_of ?_ ?_); (· first | assumption | exact decide_eq_true (by omega) | decide +kernel | (refine decide_eq_true ?_; simp (disch := omega) only [i64w]; omega)); conv => whnf)
              | ((with_reducible refine condm_pos ?_ ?_); (· assumption); conv => whnf)
              | ((with_reducible refine condm_neg ?_ ?_); (· assumption); conv => whnf)
              | ((with_reducible refine forceL_fv (by assumption) ?_); conv => whnf)
              | ((with_reducible refine forceL_rfv (by assumption) ?_); conv => whnf)
              | ((with_reducible refine forceNm_of ?_); conv => whnf)
              | ((with_reducible refine needm_of (fv_lenL (by assumption) (by assumption)) ?_); conv => whnf)
              | ((with_reducible refine optm_var (fv_strL (by assumption) (by assumption)) (fun s hs => ?_)); conv => whnf)
              | ((with_reducible refine forceA_of ?_); conv => whnf)
              | ((with_reducible refine forceL_fw (by assumption) ?_); conv => whnf)
              | ((with_reducible refine forceL_rfw (by assumption) ?_); conv => whnf)
              | ((with_reducible refine forceL_fl (by assumption) ?_); conv => whnf)
              | ((with_reducible refine forceL_rfl (by assumption) ?_); conv => whnf)
              | fail)
            refine loopx_of (fun m F H => ∃ (i : Nat) (os : List A) (O : List UInt8), i ≤ 32 ∧ m = 32 - i ∧ os = u8s O ∧ O.length = 32 ∧ (∀ j, j < i → O[j]? = (outB S)[j]?) ∧ F = [(0, .a (.str s)), (5, .a (.ptr 0 0)), (10, .a (.ptr 1 0)), (14, .a (.ptr 2 0)), (15, .a (.int .i64 i))] ∧ H = [.cells h2 68 false, .cells ss 33 false, .cells os 41 false]) 32 ?_ ?_
            · refine Into.weak [0, 2, 3] _ _ ⟨0, z32, _, by omega, rfl, hz, by simp, fun j hj => by omega, rfl, rfl⟩ ⟨rfl, rfl, rfl, rfl, rfl, trivial⟩ ⟨ren_fl hfl2 _ _ _, ren_fw hss _ _ _, ren_fv hz _ _ _, trivial⟩ ?_
              simp [nodupb, baseb, Ob.okb, frmOk, V.okb, A.okb, hfl2.all, all_fv hz, all_fw hss] <;> decide
            · rintro m F H ⟨i, os, O, hi, rfl, hos, hO, hOj, rfl, rfl⟩
              conv => whnf
              refine condm_of (fun h => ?_) (fun h => ?_)
              · have hi32 : i < 32 := by have := of_decide_eq_true h; omega
                have e5 : IntKind.i64.wrap (↑i + 1) = ((i + 1 : Nat) : Int) := by rw [i64w (by omega) (by omega)]; rfl
                have hw : S.row[i / 4]? = some (S.row.getD (i / 4) 0) := by
                  rw [List.getD_eq_getElem?_getD, List.getElem?_eq_getElem (by rw [row_length]; omega)]; rfl
                have og := outB_get S hi32
                generalize S.row.getD (i / 4) 0 = w at *
                have q0 : IntKind.i64.wrap ((i : Int).tdiv 4) = ((i / 4 : Nat) : Int) := by rw [show (4 : Int) = ((4 : Nat) : Int) from rfl, tdivN, i64w (by omega) (by omega)]
                have q1 : (i : Int).tmod 4 = ((i % 4 : Nat) : Int) := tmodN i 4
                have q2 : IntKind.i64.wrap (24 - IntKind.i64.wrap (8 * ((i % 4 : Nat) : Int))) = ((24 - 8 * (i % 4) : Nat) : Int) := by
                  rw [i64w (x := 8 * ((i % 4 : Nat) : Int)) (by omega) (by omega), i64w (by omega) (by omega)]; omega
                have hg : ss[0 + ((i / 4 : Nat) : Int).toNat * Try.prog.types[32].size]? = some (.int .u32 (w.toNat : Int)) := by
                  rw [s32, Nat.mul_one, Int.toNat_natCast, Nat.zero_add]; exact fw_get hss hw
                conv => whnf
                repeat' (first
                  | ((with_reducible refine optm_of hg ?_); conv => whnf)
                  | rw [q0]
                  | rw [q1]
                  | rw [q2]
                  | ((with_reducible refine regx_of ?_ ?_); (· decide +kernel); conv => whnf)
                  | ((with_reducible refine growx_pre ?_ ?_); (· exact ⟨_, rfl⟩); conv => whnf)
                  | ((with_reducible refine needm_of ?_ ?_); (· first | assumption | exact decide_eq_true (by omega) | decide +kernel | (refine decide_eq_true ?_; simp (disch := omega) only [i64w]; omega)); conv => whnf)
                  | ((with_reducible refine condm_pos ?_ ?_); (· assumption); conv => whnf)
                  | ((with_reducible refine condm_neg ?_ ?_); (· assumption); conv => whnf)
                  | ((with_reducible refine forceL_fv (by assumption) ?_); conv => whnf)
                  | ((with_reducible refine forceL_rfv (by assumption) ?_); conv => whnf)
                  | ((with_reducible refine forceNm_of ?_); conv => whnf)
                  | ((with_reducible refine needm_of (fv_lenL (by assumption) (by assumption)) ?_); conv => whnf)
                  | ((with_reducible refine optm_var (fv_strL (by assumption) (by assumption)) (fun s hs => ?_)); conv => whnf)
                  | ((with_reducible refine forceA_of ?_); conv => whnf)
                  | ((with_reducible refine forceL_fw (by assumption) ?_); conv => whnf)
                  | ((with_reducible refine forceL_rfw (by assumption) ?_); conv => whnf)
                  | ((with_reducible refine forceL_fl (by assumption) ?_); conv => whnf)
                  | ((with_reducible refine forceL_rfl (by assumption) ?_); conv => whnf)
                  | fail)
                rw [w_shr8 w (k := ((24 - 8 * (i % 4) : Nat) : Int)) (n := 24 - 8 * (i % 4)) (by rw [Int.toNat_natCast]; exact Nat.min_eq_left (by show 24 - 8 * (i % 4) ≤ 32; omega))]
                refine needm_of (by rw [u8s_len hos, s5]; simp [hO]; omega) ?_
                conv => whnf
                repeat' (first
                  | ((with_reducible refine regx_of ?_ ?_); (· decide +kernel); conv => whnf)
                  | ((with_reducible refine growx_pre ?_ ?_); (· exact ⟨_, rfl⟩); conv => whnf)
                  | ((with_reducible refine needm_of ?_ ?_); (· first | assumption | exact decide_eq_true (by omega) | decide +kernel | (refine decide_eq_true ?_; simp (disch := omega) only [i64w]; omega)); conv => whnf)
                  | ((with_reducible refine condm_pos ?_ ?_); (· assumption); conv => whnf)
                  | ((with_reducible refine condm_neg ?_ ?_); (· assumption); conv => whnf)
                  | ((with_reducible refine forceL_fv (by assumption) ?_); conv => whnf)
                  | ((with_reducible refine forceL_rfv (by assumption) ?_); conv => whnf)
                  | ((with_reducible refine forceNm_of ?_); conv => whnf)
                  | ((with_reducible refine needm_of (fv_lenL (by assumption) (by assumption)) ?_); conv => whnf)
                  | ((with_reducible refine optm_var (fv_strL (by assumption) (by assumption)) (fun s hs => ?_)); conv => whnf)
                  | ((with_reducible refine forceA_of ?_); conv => whnf)
                  | ((with_reducible refine forceL_fw (by assumption) ?_); conv => whnf)
                  | ((with_reducible refine forceL_rfw (by assumption) ?_); conv => whnf)
                  | ((with_reducible refine forceL_fl (by assumption) ?_); conv => whnf)
                  | ((with_reducible refine forceL_rfl (by assumption) ?_); conv => whnf)
                  | fail)
                refine forceL_var (fv_setN hos (n := i) (by rw [s5, Nat.zero_add, Nat.mul_one, Int.toNat_natCast])) (fun o1 ho1 => ?_)
                conv => whnf
                repeat' (first
                  | ((with_reducible refine regx_of ?_ ?_); (· decide +kernel); conv => whnf)
                  | ((with_reducible refine growx_pre ?_ ?_); (· exact ⟨_, rfl⟩); conv => whnf)
                  | ((with_reducible refine needm_of ?_ ?_); (· first | assumption | exact decide_eq_true (by omega) | decide +kernel | (refine decide_eq_true ?_; simp (disch := omega) only [i64w]; omega)); conv => whnf)
                  | ((with_reducible refine condm_pos ?_ ?_); (· assumption); conv => whnf)
                  | ((with_reducible refine condm_neg ?_ ?_); (· assumption); conv => whnf)
                  | ((with_reducible refine forceL_fv (by assumption) ?_); conv => whnf)
                  | ((with_reducible refine forceL_rfv (by assumption) ?_); conv => whnf)
                  | ((with_reducible refine forceNm_of ?_); conv => whnf)
                  | ((with_reducible refine needm_of (fv_lenL (by assumption) (by assumption)) ?_); conv => whnf)
                  | ((with_reducible refine optm_var (fv_strL (by assumption) (by assumption)) (fun s hs => ?_)); conv => whnf)
                  | ((with_reducible refine forceA_of ?_); conv => whnf)
                  | ((with_reducible refine forceL_fw (by assumption) ?_); conv => whnf)
                  | ((with_reducible refine forceL_rfw (by assumption) ?_); conv => whnf)
                  | ((with_reducible refine forceL_fl (by assumption) ?_); conv => whnf)
                  | ((with_reducible refine forceL_rfl (by assumption) ?_); conv => whnf)
                  | fail)
                refine ⟨32 - (i + 1), by omega, Into.weak [0, 1, 2] _ _ ⟨i + 1, o1, _, by omega, rfl, ho1, by rw [List.length_set]; exact hO, ?_, rfl, rfl⟩ ⟨rfl, rfl, rfl, rfl, congrArg (fun z => some (V.a (.int .i64 z))) e5, trivial⟩ ⟨ren_fl hfl2 _ _ _, ren_fw hss _ _ _, ren_fv ho1 _ _ _, trivial⟩ ?_⟩
                · intro j hj
                  rw [List.getElem?_set]
                  by_cases e : i = j
                  · subst e
                    rw [if_pos rfl, if_pos (by omega)]
                    exact og.symm
                  · rw [if_neg e]
                    exact hOj j (by omega)
                · simp [nodupb, baseb, Ob.okb, frmOk, V.okb, A.okb, hfl2.all, all_fw hss, all_fv ho1] <;> decide
              · have h32 : i = 32 := by have := of_decide_eq_false h; omega
                have hOe : O = digest l := by
                  rw [hdg]
                  apply List.ext_getElem?
                  intro j
                  by_cases hj : j < 32
                  · exact hOj j (by omega)
                  · rw [List.getElem?_eq_none (by omega), List.getElem?_eq_none (by rw [outB_length]; omega)]
                rw [hOe] at hos
                have hol : os.length = 32 := by rw [u8s_len hos, digest_length]
                conv => whnf
                repeat' (first
                  | ((with_reducible refine regx_of ?_ ?_); (· decide +kernel); conv => whnf)
                  | ((with_reducible refine growx_pre ?_ ?_); (· exact ⟨_, rfl⟩); conv => whnf)
                  | ((with_reducible refine needm_of ?_ ?_); (· first | assumption | exact decide_eq_true (by omega) | decide +kernel | (refine decide_eq_true ?_; simp (disch := omega) only [i64w]; omega)); conv => whnf)
                  | ((with_reducible refine condm_pos ?_ ?_); (· assumption); conv => whnf)
                  | ((with_reducible refine condm_neg ?_ ?_); (· assumption); conv => whnf)
                  | ((with_reducible refine forceL_fv (by assumption) ?_); conv => whnf)
                  | ((with_reducible refine forceL_rfv (by assumption) ?_); conv => whnf)
                  | ((with_reducible refine forceNm_of ?_); conv => whnf)
                  | ((with_reducible refine needm_of (fv_lenL (by assumption) (by assumption)) ?_); conv => whnf)
                  | ((with_reducible refine optm_var (fv_strL (by assumption) (by assumption)) (fun s hs => ?_)); conv => whnf)
                  | ((with_reducible refine forceA_of ?_); conv => whnf)
                  | ((with_reducible refine forceL_fw (by assumption) ?_); conv => whnf)
                  | ((with_reducible refine forceL_rfw (by assumption) ?_); conv => whnf)
                  | ((with_reducible refine forceL_fl (by assumption) ?_); conv => whnf)
                  | ((with_reducible refine forceL_rfl (by assumption) ?_); conv => whnf)
                  | ((with_reducible refine needm_of ?_ ?_); (· (rw [hol]; rfl)); conv => whnf)
                  | ((with_reducible refine forceL_to (whole_of ?_) ?_); (· rw [hol]; rfl); conv => whnf)
                  | fail)
                refine Go.Eng.Fn.frame [] (by rfl) (by exact trivial) (by rfl) (of27 s l hl hbig (fun os2 hos2 => ?_))
                obtain rfl : os2 = os := hos2.trans hos.symm
                conv => whnf
                repeat' (first
                  | ((with_reducible refine regx_of ?_ ?_); (· decide +kernel); conv => whnf)
                  | ((with_reducible refine growx_pre ?_ ?_); (· exact ⟨_, rfl⟩); conv => whnf)
                  | ((with_reducible refine needm_of ?_ ?_); (· first | assumption | exact decide_eq_true (by omega) | decide +kernel | (refine decide_eq_true ?_; simp (disch := omega) only [i64w]; omega)); conv => whnf)
                  | ((with_reducible refine condm_pos ?_ ?_); (· assumption); conv => whnf)
                  | ((with_reducible refine condm_neg ?_ ?_); (· assumption); conv => whnf)
                  | ((with_reducible refine forceL_fv (by assumption) ?_); conv => whnf)
                  | ((with_reducible refine forceL_rfv (by assumption) ?_); conv => whnf)
                  | ((with_reducible refine forceNm_of ?_); conv => whnf)
                  | ((with_reducible refine needm_of (fv_lenL (by assumption) (by assumption)) ?_); conv => whnf)
                  | ((with_reducible refine optm_var (fv_strL (by assumption) (by assumption)) (fun s hs => ?_)); conv => whnf)
                  | ((with_reducible refine forceA_of ?_); conv => whnf)
                  | ((with_reducible refine forceL_fw (by assumption) ?_); conv => whnf)
                  | ((with_reducible refine forceL_rfw (by assumption) ?_); conv => whnf)
                  | ((with_reducible refine forceL_fl (by assumption) ?_); conv => whnf)
                  | ((with_reducible refine forceL_rfl (by assumption) ?_); conv => whnf)
                  | ((with_reducible refine needm_of ?_ ?_); (· (rw [hol]; rfl)); conv => whnf)
                  | ((with_reducible refine forceL_to (whole_of ?_) ?_); (· rw [hol]; rfl); conv => whnf)
                  | (refine ⟨_, same41 hos (digest_length l), ?_⟩; conv => whnf)
                  | fail)
                refine Go.Eng.Fn.frame [0] (by rfl) (by exact ⟨ren_fl hfl2 _ _ _, trivial⟩) (by simp [nodupb, V.okb, A.okb, Ob.okb, hfl2.all]) (sum33 l _ rfl h2 hh2 (fun os3 hos3 => ?_))
                obtain rfl : os3 = os2 := hos3.trans hos.symm
                conv => whnf
                refine growx_pre ⟨[], by rw [List.append_nil]; exact (plug_one rfl (ren_fb hfl2 _ _ _)).symm⟩ ?_
                conv => whnf
                repeat' (first
                  | ((with_reducible refine regx_of ?_ ?_); (· decide +kernel); conv => whnf)
                  | ((with_reducible refine growx_pre ?_ ?_); (· exact ⟨_, rfl⟩); conv => whnf)
                  | ((with_reducible refine needm_of ?_ ?_); (· first | assumption | exact decide_eq_true (by omega) | decide +kernel | (refine decide_eq_true ?_; simp (disch := omega) only [i64w]; omega)); conv => whnf)
                  | ((with_reducible refine condm_pos ?_ ?_); (· assumption); conv => whnf)
                  | ((with_reducible refine condm_neg ?_ ?_); (· assumption); conv => whnf)
                  | ((with_reducible refine forceL_fv (by assumption) ?_); conv => whnf)
                  | ((with_reducible refine forceL_rfv (by assumption) ?_); conv => whnf)
                  | ((with_reducible refine forceNm_of ?_); conv => whnf)
                  | ((with_reducible refine needm_of (fv_lenL (by assumption) (by assumption)) ?_); conv => whnf)
                  | ((with_reducible refine optm_var (fv_strL (by assumption) (by assumption)) (fun s hs => ?_)); conv => whnf)
                  | ((with_reducible refine forceA_of ?_); conv => whnf)
                  | ((with_reducible refine forceL_fw (by assumption) ?_); conv => whnf)
                  | ((with_reducible refine forceL_rfw (by assumption) ?_); conv => whnf)
                  | ((with_reducible refine forceL_fl (by assumption) ?_); conv => whnf)
                  | ((with_reducible refine forceL_rfl (by assumption) ?_); conv => whnf)
                  | ((with_reducible refine needm_of ?_ ?_); (· (rw [hol]; rfl)); conv => whnf)
                  | ((with_reducible refine forceL_to (whole_of ?_) ?_); (· rw [hol]; rfl); conv => whnf)
                  | (refine ⟨_, same41 hos (digest_length l), ?_⟩; conv => whnf)
                  | fail)
                refine Go.Eng.Fn.frame [0] (by rfl) (by exact ⟨ren_fl hfl2 _ _ _, trivial⟩) (by simp [nodupb, V.okb, A.okb, Ob.okb, hfl2.all]) (len36 l _ h2 hh2 ?_)
                conv => whnf
                refine growx_pre ⟨[], by rw [List.append_nil]; exact (plug_one rfl (ren_fb hfl2 _ _ _)).symm⟩ ?_
                conv => whnf
                have c9 : (((l.length % 18446744073709551616 : Nat) : Int) == IntKind.u64.wrap (s.size : Int)) = true := by rw [hsz, u64w]; simp
                rw [hsz] at c9
                repeat' (first
                  | rw [hsz]
                  | ((with_reducible refine regx_of ?_ ?_); (· decide +kernel); conv => whnf)
                  | ((with_reducible refine growx_pre ?_ ?_); (· exact ⟨_, rfl⟩); conv => whnf)
                  | ((with_reducible refine needm_of ?_ ?_); (· first | assumption | exact decide_eq_true (by omega) | decide +kernel | (refine decide_eq_true ?_; simp (disch := omega) only [i64w]; omega)); conv => whnf)
                  | ((with_reducible refine condm_pos ?_ ?_); (· assumption); conv => whnf)
                  | ((with_reducible refine condm_neg ?_ ?_); (· assumption); conv => whnf)
                  | ((with_reducible refine forceL_fv (by assumption) ?_); conv => whnf)
                  | ((with_reducible refine forceL_rfv (by assumption) ?_); conv => whnf)
                  | ((with_reducible refine forceNm_of ?_); conv => whnf)
                  | ((with_reducible refine needm_of (fv_lenL (by assumption) (by assumption)) ?_); conv => whnf)
                  | ((with_reducible refine optm_var (fv_strL (by assumption) (by assumption)) (fun s hs => ?_)); conv => whnf)
                  | ((with_reducible refine forceA_of ?_); conv => whnf)
                  | ((with_reducible refine forceL_fw (by assumption) ?_); conv => whnf)
                  | ((with_reducible refine forceL_rfw (by assumption) ?_); conv => whnf)
                  | ((with_reducible refine forceL_fl (by assumption) ?_); conv => whnf)
                  | ((with_reducible refine forceL_rfl (by assumption) ?_); conv => whnf)
                  | fail)
                exact congrArg (fun b => V.a (A.bool b)) c9
      · have hc' := of_decide_eq_false hc
        refine needm_of (decide_eq_true (by rw [s5, u8s_len hc1, List.length_append]; exact ⟨by omega, by show (_ : Nat) * 1 ≤ _; omega, by omega⟩)) ?_
        intro cap' hcap'
        conv => whnf
        repeat' (first
          | ((with_reducible refine regx_of ?_ ?_); (· decide +kernel); conv => whnf)
          | ((with_reducible refine growx_pre ?_ ?_); (· exact ⟨_, rfl⟩); conv => whnf)
          | ((with_reducible refine needm_of ?_ ?_); (· first | assumption | exact decide_eq_true (by omega) | decide +kernel | (refine decide_eq_true ?_; simp (disch := omega) only [i64w]; omega)); conv => whnf)
          | ((with_reducible refine condm_pos ?_ ?_); (· assumption); conv => whnf)
          | ((with_reducible refine condm_neg ?_ ?_); (· assumption); conv => whnf)
          | ((with_reducible refine forceL_fv (by assumption) ?_); conv => whnf)
          | ((with_reducible refine forceL_rfv (by assumption) ?_); conv => whnf)
          | ((with_reducible refine forceNm_of ?_); conv => whnf)
          | ((with_reducible refine needm_of (fv_lenL (by assumption) (by assumption)) ?_); conv => whnf)
          | ((with_reducible refine optm_var (fv_strL (by assumption) (by assumption)) (fun s hs => ?_)); conv => whnf)
          | ((with_reducible refine forceA_of ?_); conv => whnf)
          | ((with_reducible refine forceL_fw (by assumption) ?_); conv => whnf)
          | ((with_reducible refine forceL_rfw (by assumption) ?_); conv => whnf)
          | ((with_reducible refine forceL_fl (by assumption) ?_); conv => whnf)
          | ((with_reducible refine forceL_rfl (by assumption) ?_); conv => whnf)
          | fail)
        refine forceL_var (l' := u8s (padded l ++ List.replicate (cap' - (l.length + flen)) 0)) ?_ (fun cs2 hcs2 => ?_)
        · rw [hc1, s5, Nat.zero_add, Nat.mul_one, List.drop_zero, u8s_take, List.take_left' rfl, Nat.mul_one, repl_u8, ← u8s_append, ← u8s_append, hpd]
        generalize hbl : l.length + flen = bl at *
        have d1 : ((bl : Int).tmod 64 != 0) = false := by
          rw [show (64 : Int) = ((64 : Nat) : Int) from rfl, tmodN, show bl % 64 = 0 by omega]
          rfl
        have d2 : decide ((bl : Int) < IntKind.i64.wrap ((s.size : Int) + 9)) = false := by
          rw [hsz, i64w (by omega) (by omega)]
          exact decide_eq_false (by omega)
        have d3 : decide ((bl : Int) > IntKind.i64.wrap ((s.size : Int) + 72)) = false := by
          rw [hsz, i64w (by omega) (by omega)]
          exact decide_eq_false (by omega)
        rw [hsz] at d2 d3
        conv => whnf
        repeat' (first
          | rw [hsz]
          | ((with_reducible refine regx_of ?_ ?_); (· decide +kernel); conv => whnf)
          | ((with_reducible refine growx_pre ?_ ?_); (· exact ⟨_, rfl⟩); conv => whnf)
          | ((with_reducible refine needm_of ?_ ?_); (· first | assumption | exact decide_eq_true (by omega) | decide +kernel | (refine decide_eq_true ?_; simp (disch := omega) only [i64w]; omega)); conv => whnf)
          | ((with_reducible refine condm_pos ?_ ?_); (· assumption); conv => whnf)
          | ((with_reducible refine condm_neg ?_ ?_); (· assumption); conv => whnf)
          | ((with_reducible refine forceL_fv (by assumption) ?_); conv => whnf)
          | ((with_reducible refine forceL_rfv (by assumption) ?_); conv => whnf)
          | ((with_reducible refine forceNm_of ?_); conv => whnf)
          | ((with_reducible refine needm_of (fv_lenL (by assumption) (by assumption)) ?_); conv => whnf)
          | ((with_reducible refine optm_var (fv_strL (by assumption) (by assumption)) (fun s hs => ?_)); conv => whnf)
          | ((with_reducible refine forceA_of ?_); conv => whnf)
          | ((with_reducible refine forceL_fw (by assumption) ?_); conv => whnf)
          | ((with_reducible refine forceL_rfw (by assumption) ?_); conv => whnf)
          | ((with_reducible refine forceL_fl (by assumption) ?_); conv => whnf)
          | ((with_reducible refine forceL_rfl (by assumption) ?_); conv => whnf)
          | fail)
        refine Go.Eng.Fn.frame [] (by rfl) (by exact trivial) (by rfl) (start23 (fun ks hks => ?_))
        have hks' : ks = u32s s0.row := by rw [hks]; unfold u32s; rfl
        clear hks
        have hkl : ks.length = 8 := by rw [fw_len hks']; rfl
        conv => whnf
        repeat' (first
          | rw [← hz8]
          | ((with_reducible refine regx_of ?_ ?_); (· decide +kernel); conv => whnf)
          | ((with_reducible refine growx_pre ?_ ?_); (· exact ⟨_, rfl⟩); conv => whnf)
          | ((with_reducible refine needm_of ?_ ?_); (· first | assumption | exact decide_eq_true (by omega) | decide +kernel | (refine decide_eq_true ?_; simp (disch := omega) only [i64w]; omega)); conv => whnf)
          | ((with_reducible refine condm_pos ?_ ?_); (· assumption); conv => whnf)
          | ((with_reducible refine condm_neg ?_ ?_); (· assumption); conv => whnf)
          | ((with_reducible refine forceL_fv (by assumption) ?_); conv => whnf)
          | ((with_reducible refine forceL_rfv (by assumption) ?_); conv => whnf)
          | ((with_reducible refine forceNm_of ?_); conv => whnf)
          | ((with_reducible refine needm_of (fv_lenL (by assumption) (by assumption)) ?_); conv => whnf)
          | ((with_reducible refine optm_var (fv_strL (by assumption) (by assumption)) (fun s hs => ?_)); conv => whnf)
          | ((with_reducible refine forceA_of ?_); conv => whnf)
          | ((with_reducible refine forceL_fw (by assumption) ?_); conv => whnf)
          | ((with_reducible refine forceL_rfw (by assumption) ?_); conv => whnf)
          | ((with_reducible refine forceL_fl (by assumption) ?_); conv => whnf)
          | ((with_reducible refine forceL_rfl (by assumption) ?_); conv => whnf)
          | fail)
        refine needm_of (by rw [hkl, h8l]; rfl) ?_
        conv => whnf
        repeat' (first
          | ((with_reducible refine regx_of ?_ ?_); (· decide +kernel); conv => whnf)
          | ((with_reducible refine growx_pre ?_ ?_); (· exact ⟨_, rfl⟩); conv => whnf)
          | ((with_reducible refine needm_of ?_ ?_); (· first | assumption | exact decide_eq_true (by omega) | decide +kernel | (refine decide_eq_true ?_; simp (disch := omega) only [i64w]; omega)); conv => whnf)
          | ((with_reducible refine condm_pos ?_ ?_); (· assumption); conv => whnf)
          | ((with_reducible refine condm_neg ?_ ?_); (· assumption); conv => whnf)
          | ((with_reducible refine forceL_fv (by assumption) ?_); conv => whnf)
          | ((with_reducible refine forceL_rfv (by assumption) ?_); conv => whnf)
          | ((with_reducible refine forceNm_of ?_); conv => whnf)
          | ((with_reducible refine needm_of (fv_lenL (by assumption) (by assumption)) ?_); conv => whnf)
          | ((with_reducible refine optm_var (fv_strL (by assumption) (by assumption)) (fun s hs => ?_)); conv => whnf)
          | ((with_reducible refine forceA_of ?_); conv => whnf)
          | ((with_reducible refine forceL_fw (by assumption) ?_); conv => whnf)
          | ((with_reducible refine forceL_rfw (by assumption) ?_); conv => whnf)
          | ((with_reducible refine forceL_fl (by assumption) ?_); conv => whnf)
          | ((with_reducible refine forceL_rfl (by assumption) ?_); conv => whnf)
          | fail)
        refine forceL_to (store_all (by rw [hkl, h8l])) ?_
        conv => whnf
        repeat' (first
          | ((with_reducible refine regx_of ?_ ?_); (· decide +kernel); conv => whnf)
          | ((with_reducible refine growx_pre ?_ ?_); (· exact ⟨_, rfl⟩); conv => whnf)
          | ((with_reducible refine needm_of ?_ ?_); (· first | assumption | exact decide_eq_true (by omega) | decide +kernel | (refine decide_eq_true ?_; simp (disch := omega) only [i64w]; omega)); conv => whnf)
          | ((with_reducible refine condm_pos ?_ ?_); (· assumption); conv => whnf)
          | ((with_reducible refine condm_neg ?_ ?_); (· assumption); conv => whnf)
          | ((with_reducible refine forceL_fv (by assumption) ?_); conv => whnf)
          | ((with_reducible refine forceL_rfv (by assumption) ?_); conv => whnf)
          | ((with_reducible refine forceNm_of ?_); conv => whnf)
          | ((with_reducible refine needm_of (fv_lenL (by assumption) (by assumption)) ?_); conv => whnf)
          | ((with_reducible refine optm_var (fv_strL (by assumption) (by assumption)) (fun s hs => ?_)); conv => whnf)
          | ((with_reducible refine forceA_of ?_); conv => whnf)
          | ((with_reducible refine forceL_fw (by assumption) ?_); conv => whnf)
          | ((with_reducible refine forceL_rfw (by assumption) ?_); conv => whnf)
          | ((with_reducible refine forceL_fl (by assumption) ?_); conv => whnf)
          | ((with_reducible refine forceL_rfl (by assumption) ?_); conv => whnf)
          | fail)
        have hdg : digest l = outB (blk kB (padded l)) := by unfold digest; rw [hkB, Nat.mul_div_cancel_left _ (by decide)]
        generalize hPd : padded l = Pd at *
        refine loopx_of (fun m F H => ∃ (k : Nat) (ss : List A), k ≤ kB ∧ m = kB - k ∧ ss = u32s (blk k Pd).row ∧ F = [(0, .a (.str s)), (5, .a (.ptr 0 0)), (9, .a (.slc 1 0 bl cap')), (10, .a (.ptr 2 0)), (11, .a (.int .i64 (64 * k : Nat)))] ∧ H = [.cells h2 68 false, .cells cs2 5 false, .cells ss 33 false]) kB ?_ ?_
        · refine Into.weak [0, 3, 4] _ _ ⟨0, ks, by omega, rfl, by rw [blk_0]; exact hks', rfl, rfl⟩ ⟨rfl, rfl, rfl, rfl, rfl, trivial⟩ ⟨ren_fl hfl2 _ _ _, ren_fv hcs2 _ _ _, ren_fw hks' _ _ _, trivial⟩ ?_
          simp [nodupb, baseb, Ob.okb, frmOk, V.okb, A.okb, hfl2.all, all_fv hcs2, all_fw hks'] <;> decide
        · clear hks' hkl ks
          rintro m F H ⟨k, ss, hk, rfl, hss, rfl, rfl⟩
          have hsl : ss.length = 8 := by rw [fw_len hss]; rfl
          conv => whnf
          refine condm_of (fun h => ?_) (fun h => ?_)
          · have hkk : k < kB := by have := of_decide_eq_true h; omega
            have e4 : IntKind.i64.wrap (((64 * k : Nat) : Int) + 64) = ((64 * (k + 1) : Nat) : Int) := by rw [i64w (by omega) (by omega)]; omega
            have hbs := blk_succ k Pd
            conv => whnf
            repeat' (first
              | rw [← hz8]
              | rw [e4]
              | ((with_reducible refine regx_of ?_ ?_); (· decide +kernel); conv => whnf)
              | ((with_reducible refine growx_pre ?_ ?_); (· exact ⟨_, rfl⟩); conv => whnf)
              | ((with_reducible refine needm_of ?_ ?_); (· first | assumption | exact decide_eq_true (by omega) | decide +kernel | (refine decide_eq_true ?_; simp (disch := omega) only [i64w]; omega)); conv => whnf)
              | ((with_reducible refine condm_pos ?_ ?_); (· assumption); conv => whnf)
              | ((with_reducible refine condm_neg ?_ ?_); (· assumption); conv => whnf)
              | ((with_reducible refine forceL_fv (by assumption) ?_); conv => whnf)
              | ((with_reducible refine forceL_rfv (by assumption) ?_); conv => whnf)
              | ((with_reducible refine forceNm_of ?_); conv => whnf)
              | ((with_reducible refine needm_of (fv_lenL (by assumption) (by assumption)) ?_); conv => whnf)
              | ((with_reducible refine optm_var (fv_strL (by assumption) (by assumption)) (fun s hs => ?_)); conv => whnf)
              | ((with_reducible refine forceA_of ?_); conv => whnf)
              | ((with_reducible refine forceL_fw (by assumption) ?_); conv => whnf)
              | ((with_reducible refine forceL_rfw (by assumption) ?_); conv => whnf)
              | ((with_reducible refine forceL_fl (by assumption) ?_); conv => whnf)
              | ((with_reducible refine forceL_rfl (by assumption) ?_); conv => whnf)
              | fail)
            refine needm_of (by rw [hsl]; rfl) ?_
            conv => whnf
            refine forceL_to (whole_of (by rw [hsl]; rfl)) ?_
            conv => whnf
            have es : (if cap' = (((64 * k : Nat) : Int)).toNat then 0 else 0 + (((64 * k : Nat) : Int)).toNat * Try.prog.types[5].size) = 64 * k := by
              rw [Int.toNat_natCast, if_neg (by omega), s5]; omega
            have el : (((64 * (k + 1) : Nat) : Int)).toNat - (((64 * k : Nat) : Int)).toNat = 64 := by
              rw [Int.toNat_natCast, Int.toNat_natCast]; omega
            repeat' (first
              | rw [← hz8]
              | rw [e4]
              | rw [es]
              | rw [el]
              | ((with_reducible refine regx_of ?_ ?_); (· decide +kernel); conv => whnf)
              | ((with_reducible refine growx_pre ?_ ?_); (· exact ⟨_, rfl⟩); conv => whnf)
              | ((with_reducible refine needm_of ?_ ?_); (· first | assumption | exact decide_eq_true (by omega) | decide +kernel | (refine decide_eq_true ?_; simp (disch := omega) only [i64w]; omega)); conv => whnf)
              | ((with_reducible refine condm_pos ?_ ?_); (· assumption); conv => whnf)
              | ((with_reducible refine condm_neg ?_ ?_); (· assumption); conv => whnf)
              | ((with_reducible refine forceL_fv (by assumption) ?_); conv => whnf)
              | ((with_reducible refine forceL_rfv (by assumption) ?_); conv => whnf)
              | ((with_reducible refine forceNm_of ?_); conv => whnf)
              | ((with_reducible refine needm_of (fv_lenL (by assumption) (by assumption)) ?_); conv => whnf)
              | ((with_reducible refine optm_var (fv_strL (by assumption) (by assumption)) (fun s hs => ?_)); conv => whnf)
              | ((with_reducible refine forceA_of ?_); conv => whnf)
              | ((with_reducible refine forceL_fw (by assumption) ?_); conv => whnf)
              | ((with_reducible refine forceL_rfw (by assumption) ?_); conv => whnf)
              | ((with_reducible refine forceL_fl (by assumption) ?_); conv => whnf)
              | ((with_reducible refine forceL_rfl (by assumption) ?_); conv => whnf)
              | ((with_reducible refine And.intro ?_ ?_) <;> (conv => whnf))
              | ((refine Go.Eng.Fn.frame [1] (by simp [V.ren, (Flat.u32 hss).ren, A.ren, dsOf]) (by exact ⟨ren_fv hcs2 _ _ _, trivial⟩) (by simp [nodupb, V.okb, A.okb, Ob.okb, all_fv hcs2, (Flat.u32 hss).all]) (block21o (blk k Pd) ss hss cs2 _ ((Pd.drop (64 * k)).take 64) (64 * k) (cap' - (((64 * k : Nat) : Int)).toNat) hcs2 (by rw [List.length_append]; omega) (by rw [List.drop_append_of_le_length (by omega), List.take_append_of_le_length (by rw [List.length_drop]; omega)]) (fun rs hrs => ?_))); rw [← hbs] at hrs; (have hrl : rs.length = 8 := by rw [fw_len hrs]; rfl); conv => whnf)
              | ((refine growx_pre ⟨[], by rw [List.append_nil]; exact (plug_one rfl (ren_fb (Flat.u8 hcs2) _ _ _)).symm⟩ ?_); conv => whnf)
              | ((with_reducible refine needm_of ?_ ?_); (· first | (rw [hrl, h8l]; rfl) | (rw [hrl, hsl]; rfl) | (rw [hrl]; rfl)); conv => whnf)
              | ((with_reducible refine forceL_to (whole_of ?_) ?_); (· rw [hrl]; rfl); conv => whnf)
              | ((with_reducible refine forceL_to (store_all ?_) ?_); (· first | rw [hrl, h8l] | rw [hrl, hsl]); conv => whnf)
              | fail)
            all_goals first
              | (refine ⟨kB - (k + 1), by omega, Into.weak [0, 1, 2] _ _ ⟨k + 1, rs, by omega, rfl, hrs, rfl, rfl⟩ ⟨rfl, rfl, rfl, rfl, rfl, trivial⟩ ⟨ren_fl hfl2 _ _ _, ren_fv hcs2 _ _ _, ren_fw hrs _ _ _, trivial⟩ ?_⟩; simp [nodupb, baseb, Ob.okb, frmOk, V.okb, A.okb, hfl2.all, all_fv hcs2, all_fw hrs] <;> decide)
              | exact ⟨[], by rw [List.append_nil]; exact (plug_one rfl (ren_fb (Flat.u8 hcs2) _ _ _)).symm⟩
          · have hkk : k = kB := by have := of_decide_eq_false h; omega
            rw [hkk] at hss
            generalize blk kB Pd = S at *
            conv => whnf
            repeat' (first
              | rw [← hz32]
              | ((with_reducible refine regx_of ?_ ?_); (· decide +kernel); conv => whnf)
              | ((with_reducible refine growx_pre ?_ ?_); (· exact ⟨_, rfl⟩); conv => whnf)
              | ((with_reducible refine needm_of ?_ ?_); (· first | assumption | exact decide_eq_true (by omega) | decide +kernel | (refine decide_eq_true ?_; simp (disch := omega) only [i64w]; omega)); conv => whnf)
              | ((with_reducible refine condm_pos ?_ ?_); (· assumption); conv => whnf)
              | ((with_reducible refine condm_neg ?_ ?_); (· assumption); conv => whnf)
              | ((with_reducible refine forceL_fv (by assumption) ?_); conv => whnf)
              | ((with_reducible refine forceL_rfv (by assumption) ?_); conv => whnf)
              | ((with_reducible refine forceNm_of ?_); conv => whnf)
              | ((with_reducible refine needm_of (fv_lenL (by assumption) (by assumption)) ?_); conv => whnf)
              | ((with_reducible refine optm_var (fv_strL (by assumption) (by assumption)) (fun s hs => ?_)); conv => whnf)
              | ((with_reducible refine forceA_of ?_); conv => whnf)
              | ((with_reducible refine forceL_fw (by assumption) ?_); conv => whnf)
              | ((with_reducible refine forceL_rfw (by assumption) ?_); conv => whnf)
              | ((with_reducible refine forceL_fl (by assumption) ?_); conv => whnf)
              | ((with_reducible refine forceL_rfl (by assumption) ?_); conv => whnf)
              | fail)
            refine loopx_of (fun m F H => ∃ (i : Nat) (os : List A) (O : List UInt8), i ≤ 32 ∧ m = 32 - i ∧ os = u8s O ∧ O.length = 32 ∧ (∀ j, j < i → O[j]? = (outB S)[j]?) ∧ F = [(0, .a (.str s)), (5, .a (.ptr 0 0)), (10, .a (.ptr 1 0)), (14, .a (.ptr 2 0)), (15, .a (.int .i64 i))] ∧ H = [.cells h2 68 false, .cells ss 33 false, .cells os 41 false]) 32 ?_ ?_
            · refine Into.weak [0, 2, 3] _ _ ⟨0, z32, _, by omega, rfl, hz, by simp, fun j hj => by omega, rfl, rfl⟩ ⟨rfl, rfl, rfl, rfl, rfl, trivial⟩ ⟨ren_fl hfl2 _ _ _, ren_fw hss _ _ _, ren_fv hz _ _ _, trivial⟩ ?_
              simp [nodupb, baseb, Ob.okb, frmOk, V.okb, A.okb, hfl2.all, all_fv hz, all_fw hss] <;> decide
            · rintro m F H ⟨i, os, O, hi, rfl, hos, hO, hOj, rfl, rfl⟩
              conv => whnf
              refine condm_of (fun h => ?_) (fun h => ?_)
              · have hi32 : i < 32 := by have := of_decide_eq_true h; omega
                have e5 : IntKind.i64.wrap (↑i + 1) = ((i + 1 : Nat) : Int) := by rw [i64w (by omega) (by omega)]; rfl
                have hw : S.row[i / 4]? = some (S.row.getD (i / 4) 0) := by
                  rw [List.getD_eq_getElem?_getD, List.getElem?_eq_getElem (by rw [row_length]; omega)]; rfl
                have og := outB_get S hi32
                generalize S.row.getD (i / 4) 0 = w at *
                have q0 : IntKind.i64.wrap ((i : Int).tdiv 4) = ((i / 4 : Nat) : Int) := by rw [show (4 : Int) = ((4 : Nat) : Int) from rfl, tdivN, i64w (by omega) (by omega)]
                have q1 : (i : Int).tmod 4 = ((i % 4 : Nat) : Int) := tmodN i 4
                have q2 : IntKind.i64.wrap (24 - IntKind.i64.wrap (8 * ((i % 4 : Nat) : Int))) = ((24 - 8 * (i % 4) : Nat) : Int) := by
                  rw [i64w (x := 8 * ((i % 4 : Nat) : Int)) (by omega) (by omega), i64w (by omega) (by omega)]; omega
                have hg : ss[0 + ((i / 4 : Nat) : Int).toNat * Try.prog.types[32].size]? = some (.int .u32 (w.toNat : Int)) := by
                  rw [s32, Nat.mul_one, Int.toNat_natCast, Nat.zero_add]; exact fw_get hss hw
                conv => whnf
                repeat' (first
                  | ((with_reducible refine optm_of hg ?_); conv => whnf)
                  | rw [q0]
                  | rw [q1]
                  | rw [q2]
                  | ((with_reducible refine regx_of ?_ ?_); (· decide +kernel); conv => whnf)
                  | ((with_reducible refine growx_pre ?_ ?_); (· exact ⟨_, rfl⟩); conv => whnf)
                  | ((with_reducible refine needm_of ?_ ?_); (· first | assumption | exact decide_eq_true (by omega) | decide +kernel | (refine decide_eq_true ?_; simp (disch := omega) only [i64w]; omega)); conv => whnf)
                  | ((with_reducible refine condm_pos ?_ ?_); (· assumption); conv => whnf)
                  | ((with_reducible refine condm_neg ?_ ?_); (· assumption); conv => whnf)
                  | ((with_reducible refine forceL_fv (by assumption) ?_); conv => whnf)
                  | ((with_reducible refine forceL_rfv (by assumption) ?_); conv => whnf)
                  | ((with_reducible refine forceNm_of ?_); conv => whnf)
                  | ((with_reducible refine needm_of (fv_lenL (by assumption) (by assumption)) ?_); conv => whnf)
                  | ((with_reducible refine optm_var (fv_strL (by assumption) (by assumption)) (fun s hs => ?_)); conv => whnf)
                  | ((with_reducible refine forceA_of ?_); conv => whnf)
                  | ((with_reducible refine forceL_fw (by assumption) ?_); conv => whnf)
                  | ((with_reducible refine forceL_rfw (by assumption) ?_); conv => whnf)
                  | ((with_reducible refine forceL_fl (by assumption) ?_); conv => whnf)
                  | ((with_reducible refine forceL_rfl (by assumption) ?_); conv => whnf)
                  | fail)
                rw [w_shr8 w (k := ((24 - 8 * (i % 4) : Nat) : Int)) (n := 24 - 8 * (i % 4)) (by rw [Int.toNat_natCast]; exact Nat.min_eq_left (by show 24 - 8 * (i % 4) ≤ 32; omega))]
                refine needm_of (by rw [u8s_len hos, s5]; simp [hO]; omega) ?_
                conv => whnf
                repeat' (first
                  | ((with_reducible refine regx_of ?_ ?_); (· decide +kernel); conv => whnf)
                  | ((with_reducible refine growx_pre ?_ ?_); (· exact ⟨_, rfl⟩); conv => whnf)
                  | ((with_reducible refine needm_of ?_ ?_); (· first | assumption | exact decide_eq_true (by omega) | decide +kernel | (refine decide_eq_true ?_; simp (disch := omega) only [i64w]; omega)); conv => whnf)
                  | ((with_reducible refine condm_pos ?_ ?_); (· assumption); conv => whnf)
                  | ((with_reducible refine condm_neg ?_ ?_); (· assumption); conv => whnf)
                  | ((with_reducible refine forceL_fv (by assumption) ?_); conv => whnf)
                  | ((with_reducible refine forceL_rfv (by assumption) ?_); conv => whnf)
                  | ((with_reducible refine forceNm_of ?_); conv => whnf)
                  | ((with_reducible refine needm_of (fv_lenL (by assumption) (by assumption)) ?_); conv => whnf)
                  | ((with_reducible refine optm_var (fv_strL (by assumption) (by assumption)) (fun s hs => ?_)); conv => whnf)
                  | ((with_reducible refine forceA_of ?_); conv => whnf)
                  | ((with_reducible refine forceL_fw (by assumption) ?_); conv => whnf)
                  | ((with_reducible refine forceL_rfw (by assumption) ?_); conv => whnf)
                  | ((with_reducible refine forceL_fl (by assumption) ?_); conv => whnf)
                  | ((with_reducible refine forceL_rfl (by assumption) ?_); conv => whnf)
                  | fail)
                refine forceL_var (fv_setN hos (n := i) (by rw [s5, Nat.zero_add, Nat.mul_one, Int.toNat_natCast])) (fun o1 ho1 => ?_)
                conv => whnf
                repeat' (first
                  | ((with_reducible refine regx_of ?_ ?_); (· decide +kernel); conv => whnf)
                  | ((with_reducible refine growx_pre ?_ ?_); (· exact ⟨_, rfl⟩); conv => whnf)
                  | ((with_reducible refine needm_of ?_ ?_); (· first | assumption | exact decide_eq_true (by omega) | decide +kernel | (refine decide_eq_true ?_; simp (disch := omega) only [i64w]; omega)); conv => whnf)
                  | ((with_reducible refine condm_pos ?_ ?_); (· assumption); conv => whnf)
                  | ((with_reducible refine condm_neg ?_ ?_); (· assumption); conv => whnf)
                  | ((with_reducible refine forceL_fv (by assumption) ?_); conv => whnf)
                  | ((with_reducible refine forceL_rfv (by assumption) ?_); conv => whnf)
                  | ((with_reducible refine forceNm_of ?_); conv => whnf)
                  | ((with_reducible refine needm_of (fv_lenL (by assumption) (by assumption)) ?_); conv => whnf)
                  | ((with_reducible refine optm_var (fv_strL (by assumption) (by assumption)) (fun s hs => ?_)); conv => whnf)
                  | ((with_reducible refine forceA_of ?_); conv => whnf)
                  | ((with_reducible refine forceL_fw (by assumption) ?_); conv => whnf)
                  | ((with_reducible refine forceL_rfw (by assumption) ?_); conv => whnf)
                  | ((with_reducible refine forceL_fl (by assumption) ?_); conv => whnf)
                  | ((with_reducible refine forceL_rfl (by assumption) ?_); conv => whnf)
                  | fail)
                refine ⟨32 - (i + 1), by omega, Into.weak [0, 1, 2] _ _ ⟨i + 1, o1, _, by omega, rfl, ho1, by rw [List.length_set]; exact hO, ?_, rfl, rfl⟩ ⟨rfl, rfl, rfl, rfl, congrArg (fun z => some (V.a (.int .i64 z))) e5, trivial⟩ ⟨ren_fl hfl2 _ _ _, ren_fw hss _ _ _, ren_fv ho1 _ _ _, trivial⟩ ?_⟩
                · intro j hj
                  rw [List.getElem?_set]
                  by_cases e : i = j
                  · subst e
                    rw [if_pos rfl, if_pos (by omega)]
                    exact og.symm
                  · rw [if_neg e]
                    exact hOj j (by omega)
                · simp [nodupb, baseb, Ob.okb, frmOk, V.okb, A.okb, hfl2.all, all_fw hss, all_fv ho1] <;> decide
              · have h32 : i = 32 := by have := of_decide_eq_false h; omega
                have hOe : O = digest l := by
                  rw [hdg]
                  apply List.ext_getElem?
                  intro j
                  by_cases hj : j < 32
                  · exact hOj j (by omega)
                  · rw [List.getElem?_eq_none (by omega), List.getElem?_eq_none (by rw [outB_length]; omega)]
                rw [hOe] at hos
                have hol : os.length = 32 := by rw [u8s_len hos, digest_length]
                conv => whnf
                repeat' (first
                  | ((with_reducible refine regx_of ?_ ?_); (· decide +kernel); conv => whnf)
                  | ((with_reducible refine growx_pre ?_ ?_); (· exact ⟨_, rfl⟩); conv => whnf)
                  | ((with_reducible refine needm_of ?_ ?_); (· first | assumption | exact decide_eq_true (by omega) | decide +kernel | (refine decide_eq_true ?_; simp (disch := omega) only [i64w]; omega)); conv => whnf)
                  | ((with_reducible refine condm_pos ?_ ?_); (· assumption); conv => whnf)
                  | ((with_reducible refine condm_neg ?_ ?_); (· assumption); conv => whnf)
                  | ((with_reducible refine forceL_fv (by assumption) ?_); conv => whnf)
                  | ((with_reducible refine forceL_rfv (by assumption) ?_); conv => whnf)
                  | ((with_reducible refine forceNm_of ?_); conv => whnf)
                  | ((with_reducible refine needm_of (fv_lenL (by assumption) (by assumption)) ?_); conv => whnf)
                  | ((with_reducible refine optm_var (fv_strL (by assumption) (by assumption)) (fun s hs => ?_)); conv => whnf)
                  | ((with_reducible refine forceA_of ?_); conv => whnf)
                  | ((with_reducible refine forceL_fw (by assumption) ?_); conv => whnf)
                  | ((with_reducible refine forceL_rfw (by assumption) ?_); conv => whnf)
                  | ((with_reducible refine forceL_fl (by assumption) ?_); conv => whnf)
                  | ((with_reducible refine forceL_rfl (by assumption) ?_); conv => whnf)
                  | ((with_reducible refine needm_of ?_ ?_); (· (rw [hol]; rfl)); conv => whnf)
                  | ((with_reducible refine forceL_to (whole_of ?_) ?_); (· rw [hol]; rfl); conv => whnf)
                  | fail)
                refine Go.Eng.Fn.frame [] (by rfl) (by exact trivial) (by rfl) (of27 s l hl hbig (fun os2 hos2 => ?_))
                obtain rfl : os2 = os := hos2.trans hos.symm
                conv => whnf
                repeat' (first
                  | ((with_reducible refine regx_of ?_ ?_); (· decide +kernel); conv => whnf)
                  | ((with_reducible refine growx_pre ?_ ?_); (· exact ⟨_, rfl⟩); conv => whnf)
                  | ((with_reducible refine needm_of ?_ ?_); (· first | assumption | exact decide_eq_true (by omega) | decide +kernel | (refine decide_eq_true ?_; simp (disch := omega) only [i64w]; omega)); conv => whnf)
                  | ((with_reducible refine condm_pos ?_ ?_); (· assumption); conv => whnf)
                  | ((with_reducible refine condm_neg ?_ ?_); (· assumption); conv => whnf)
                  | ((with_reducible refine forceL_fv (by assumption) ?_); conv => whnf)
                  | ((with_reducible refine forceL_rfv (by assumption) ?_); conv => whnf)
                  | ((with_reducible refine forceNm_of ?_); conv => whnf)
                  | ((with_reducible refine needm_of (fv_lenL (by assumption) (by assumption)) ?_); conv => whnf)
                  | ((with_reducible refine optm_var (fv_strL (by assumption) (by assumption)) (fun s hs => ?_)); conv => whnf)
                  | ((with_reducible refine forceA_of ?_); conv => whnf)
                  | ((with_reducible refine forceL_fw (by assumption) ?_); conv => whnf)
                  | ((with_reducible refine forceL_rfw (by assumption) ?_); conv => whnf)
                  | ((with_reducible refine forceL_fl (by assumption) ?_); conv => whnf)
                  | ((with_reducible refine forceL_rfl (by assumption) ?_); conv => whnf)
                  | ((with_reducible refine needm_of ?_ ?_); (· (rw [hol]; rfl)); conv => whnf)
                  | ((with_reducible refine forceL_to (whole_of ?_) ?_); (· rw [hol]; rfl); conv => whnf)
                  | (refine ⟨_, same41 hos (digest_length l), ?_⟩; conv => whnf)
                  | fail)
                refine Go.Eng.Fn.frame [0] (by rfl) (by exact ⟨ren_fl hfl2 _ _ _, trivial⟩) (by simp [nodupb, V.okb, A.okb, Ob.okb, hfl2.all]) (sum33 l _ rfl h2 hh2 (fun os3 hos3 => ?_))
                obtain rfl : os3 = os2 := hos3.trans hos.symm
                conv => whnf
                refine growx_pre ⟨[], by rw [List.append_nil]; exact (plug_one rfl (ren_fb hfl2 _ _ _)).symm⟩ ?_
                conv => whnf
                repeat' (first
                  | ((with_reducible refine regx_of ?_ ?_); (· decide +kernel); conv => whnf)
                  | ((with_reducible refine growx_pre ?_ ?_); (· exact ⟨_, rfl⟩); conv => whnf)
                  | ((with_reducible refine needm_of ?_ ?_); (· first | assumption | exact decide_eq_true (by omega) | decide +kernel | (refine decide_eq_true ?_; simp (disch := omega) only [i64w]; omega)); conv => whnf)
                  | ((with_reducible refine condm_pos ?_ ?_); (· assumption); conv => whnf)
                  | ((with_reducible refine condm_neg ?_ ?_); (· assumption); conv => whnf)
                  | ((with_reducible refine forceL_fv (by assumption) ?_); conv => whnf)
                  | ((with_reducible refine forceL_rfv (by assumption) ?_); conv => whnf)
                  | ((with_reducible refine forceNm_of ?_); conv => whnf)
                  | ((with_reducible refine needm_of (fv_lenL (by assumption) (by assumption)) ?_); conv => whnf)
                  | ((with_reducible refine optm_var (fv_strL (by assumption) (by assumption)) (fun s hs => ?_)); conv => whnf)
                  | ((with_reducible refine forceA_of ?_); conv => whnf)
                  | ((with_reducible refine forceL_fw (by assumption) ?_); conv => whnf)
                  | ((with_reducible refine forceL_rfw (by assumption) ?_); conv => whnf)
                  | ((with_reducible refine forceL_fl (by assumption) ?_); conv => whnf)
                  | ((with_reducible refine forceL_rfl (by assumption) ?_); conv => whnf)
                  | ((with_reducible refine needm_of ?_ ?_); (· (rw [hol]; rfl)); conv => whnf)
                  | ((with_reducible refine forceL_to (whole_of ?_) ?_); (· rw [hol]; rfl); conv => whnf)
                  | (refine ⟨_, same41 hos (digest_length l), ?_⟩; conv => whnf)
                  | fail)
                refine Go.Eng.Fn.frame [0] (by rfl) (by exact ⟨ren_fl hfl2 _ _ _, trivial⟩) (by simp [nodupb, V.okb, A.okb, Ob.okb, hfl2.all]) (len36 l _ h2 hh2 ?_)
                conv => whnf
                refine growx_pre ⟨[], by rw [List.append_nil]; exact (plug_one rfl (ren_fb hfl2 _ _ _)).symm⟩ ?_
                conv => whnf
                have c9 : (((l.length % 18446744073709551616 : Nat) : Int) == IntKind.u64.wrap (s.size : Int)) = true := by rw [hsz, u64w]; simp
                rw [hsz] at c9
                repeat' (first
                  | rw [hsz]
                  | ((with_reducible refine regx_of ?_ ?_); (· decide +kernel); conv => whnf)
                  | ((with_reducible refine growx_pre ?_ ?_); (· exact ⟨_, rfl⟩); conv => whnf)
                  | ((with_reducible refine needm_of ?_ ?_); (· first | assumption | exact decide_eq_true (by omega) | decide +kernel | (refine decide_eq_true ?_; simp (disch := omega) only [i64w]; omega)); conv => whnf)
                  | ((with_reducible refine condm_pos ?_ ?_); (· assumption); conv => whnf)
                  | ((with_reducible refine condm_neg ?_ ?_); (· assumption); conv => whnf)
                  | ((with_reducible refine forceL_fv (by assumption) ?_); conv => whnf)
                  | ((with_reducible refine forceL_rfv (by assumption) ?_); conv => whnf)
                  | ((with_reducible refine forceNm_of ?_); conv => whnf)
                  | ((with_reducible refine needm_of (fv_lenL (by assumption) (by assumption)) ?_); conv => whnf)
                  | ((with_reducible refine optm_var (fv_strL (by assumption) (by assumption)) (fun s hs => ?_)); conv => whnf)
                  | ((with_reducible refine forceA_of ?_); conv => whnf)
                  | ((with_reducible refine forceL_fw (by assumption) ?_); conv => whnf)
                  | ((with_reducible refine forceL_rfw (by assumption) ?_); conv => whnf)
                  | ((with_reducible refine forceL_fl (by assumption) ?_); conv => whnf)
                  | ((with_reducible refine forceL_rfl (by assumption) ?_); conv => whnf)
                  | fail)
                exact congrArg (fun b => V.a (A.bool b)) c9
  · conv => whnf
    refine Go.Eng.Fn.frame [] (by rfl) (by exact trivial) (by rfl) (awake37 ?_)
    conv => whnf
    refine Go.Eng.Fn.frame [] (by rfl) (by exact trivial) (by rfl) (new29 (fun hs hhs => ?_))
    have hfl := hhs.flat
    conv => whnf
    repeat' (first
      | ((with_reducible refine regx_of ?_ ?_); (· decide +kernel); conv => whnf)
      | ((with_reducible refine growx_pre ?_ ?_); (· exact ⟨_, rfl⟩); conv => whnf)
      | ((with_reducible refine needm_of ?_ ?_); (· first | assumption | exact decide_eq_true (by omega) | decide +kernel | (refine decide_eq_true ?_; simp (disch := omega) only [i64w]; omega)); conv => whnf)
      | ((with_reducible refine condm_pos ?_ ?_); (· assumption); conv => whnf)
      | ((with_reducible refine condm_neg ?_ ?_); (· assumption); conv => whnf)
      | ((with_reducible refine forceL_fv (by assumption) ?_); conv => whnf)
      | ((with_reducible refine forceL_rfv (by assumption) ?_); conv => whnf)
      | ((with_reducible refine forceNm_of ?_); conv => whnf)
      | ((with_reducible refine needm_of (fv_lenL (by assumption) (by assumption)) ?_); conv => whnf)
      | ((with_reducible refine optm_var (fv_strL (by assumption) (by assumption)) (fun s hs => ?_)); conv => whnf)
      | ((with_reducible refine forceA_of ?_); conv => whnf)
      | ((with_reducible refine forceL_fw (by assumption) ?_); conv => whnf)
      | ((with_reducible refine forceL_rfw (by assumption) ?_); conv => whnf)
      | ((with_reducible refine forceL_fl (by assumption) ?_); conv => whnf)
      | ((with_reducible refine forceL_rfl (by assumption) ?_); conv => whnf)
      | fail)
    refine loopx_of (fun m F H => ∃ (i fr : Nat) (hs : List A), i ≤ clen ∧ m = clen - i ∧ fr ≤ l.length ∧ HS (l.take fr) (fr % 18446744073709551616) hs ∧ F = [(0, .a (.str s)), (1, .a (.rslc p clen ccap)), (5, .a (.ptr 0 0)), (6, .a (.int .i64 fr)), (7, .a (.int .i64 i))] ∧ H = [.cells hs 68 false]) clen ?_ ?_
    · refine Into.weak [0] _ _ ⟨0, 0, hs, by omega, rfl, by omega, by simpa using hhs, rfl, rfl⟩ ⟨rfl, rfl, rfl, rfl, rfl, trivial⟩ ⟨ren_fl hfl _ _ _, trivial⟩ ?_
      simp [nodupb, baseb, Ob.okb, frmOk, V.okb, A.okb, hfl.all] <;> decide
    · clear hfl hhs hs
      rintro m F H ⟨i, fr, hs, hi, rfl, hfr, hH, rfl, rfl⟩
      have hfl := hH.flat
      conv => whnf
      refine condm_of (fun h => ?_) (fun h => ?_)
      · have hil : i < clen := by have := of_decide_eq_true h; omega
        have e4 : IntKind.i64.wrap (↑i + 1) = ((i + 1 : Nat) : Int) := by rw [i64w (by omega) (by omega)]; rfl
        obtain ⟨n, ld⟩ := hro i hil
        conv => whnf
        repeat' (first
          | ((with_reducible refine regx_of ?_ ?_); (· decide +kernel); conv => whnf)
          | ((with_reducible refine growx_pre ?_ ?_); (· exact ⟨_, rfl⟩); conv => whnf)
          | ((with_reducible refine needm_of ?_ ?_); (· first | assumption | exact decide_eq_true (by omega) | decide +kernel | (refine decide_eq_true ?_; simp (disch := omega) only [i64w]; omega)); conv => whnf)
          | ((with_reducible refine condm_pos ?_ ?_); (· assumption); conv => whnf)
          | ((with_reducible refine condm_neg ?_ ?_); (· assumption); conv => whnf)
          | ((with_reducible refine forceL_fv (by assumption) ?_); conv => whnf)
          | ((with_reducible refine forceL_rfv (by assumption) ?_); conv => whnf)
          | ((with_reducible refine forceNm_of ?_); conv => whnf)
          | ((with_reducible refine needm_of (fv_lenL (by assumption) (by assumption)) ?_); conv => whnf)
          | ((with_reducible refine optm_var (fv_strL (by assumption) (by assumption)) (fun s hs => ?_)); conv => whnf)
          | ((with_reducible refine forceA_of ?_); conv => whnf)
          | ((with_reducible refine forceL_fw (by assumption) ?_); conv => whnf)
          | ((with_reducible refine forceL_rfw (by assumption) ?_); conv => whnf)
          | ((with_reducible refine forceL_fl (by assumption) ?_); conv => whnf)
          | ((with_reducible refine forceL_rfl (by assumption) ?_); conv => whnf)
          | fail)
        have e2 : (i : Int).tmod 2 = ((i % 2 : Nat) : Int) := tmodN i 2
        refine ⟨.int .i64 n, by rw [s3, Int.toNat_natCast, Nat.mul_one]; exact ld, ?_⟩
        conv => whnf
        by_cases g1 : n < (fr : Int)
        · have d1 : decide (n < (fr : Int)) = true := decide_eq_true g1
          repeat' (first
            | ((with_reducible refine regx_of ?_ ?_); (· decide +kernel); conv => whnf)
            | ((with_reducible refine growx_pre ?_ ?_); (· exact ⟨_, rfl⟩); conv => whnf)
            | ((with_reducible refine needm_of ?_ ?_); (· first | assumption | exact decide_eq_true (by omega) | decide +kernel | (refine decide_eq_true ?_; simp (disch := omega) only [i64w]; omega)); conv => whnf)
            | ((with_reducible refine condm_pos ?_ ?_); (· assumption); conv => whnf)
            | ((with_reducible refine condm_neg ?_ ?_); (· assumption); conv => whnf)
            | ((with_reducible refine forceL_fv (by assumption) ?_); conv => whnf)
            | ((with_reducible refine forceL_rfv (by assumption) ?_); conv => whnf)
            | ((with_reducible refine forceNm_of ?_); conv => whnf)
            | ((with_reducible refine needm_of (fv_lenL (by assumption) (by assumption)) ?_); conv => whnf)
            | ((with_reducible refine optm_var (fv_strL (by assumption) (by assumption)) (fun s hs => ?_)); conv => whnf)
            | ((with_reducible refine forceA_of ?_); conv => whnf)
            | ((with_reducible refine forceL_fw (by assumption) ?_); conv => whnf)
            | ((with_reducible refine forceL_rfw (by assumption) ?_); conv => whnf)
            | ((with_reducible refine forceL_fl (by assumption) ?_); conv => whnf)
            | ((with_reducible refine forceL_rfl (by assumption) ?_); conv => whnf)
            | fail)
          refine ⟨clen - (i + 1), by omega, Into.weak [0] _ _ ⟨i + 1, fr, hs, by omega, rfl, hfr, hH, rfl, rfl⟩ ⟨rfl, rfl, rfl, rfl, congrArg (fun z => some (V.a (.int .i64 z))) e4, trivial⟩ ⟨ren_fl hfl _ _ _, trivial⟩ ?_⟩
          simp [nodupb, baseb, Ob.okb, frmOk, V.okb, A.okb, hfl.all] <;> decide
        · have d1 : decide (n < (fr : Int)) = false := decide_eq_false g1
          by_cases g2 : n > (s.size : Int)
          · have d2 : decide (n > (s.size : Int)) = true := decide_eq_true g2
            repeat' (first
              | ((with_reducible refine regx_of ?_ ?_); (· decide +kernel); conv => whnf)
              | ((with_reducible refine growx_pre ?_ ?_); (· exact ⟨_, rfl⟩); conv => whnf)
              | ((with_reducible refine needm_of ?_ ?_); (· first | assumption | exact decide_eq_true (by omega) | decide +kernel | (refine decide_eq_true ?_; simp (disch := omega) only [i64w]; omega)); conv => whnf)
              | ((with_reducible refine condm_pos ?_ ?_); (· assumption); conv => whnf)
              | ((with_reducible refine condm_neg ?_ ?_); (· assumption); conv => whnf)
              | ((with_reducible refine forceL_fv (by assumption) ?_); conv => whnf)
              | ((with_reducible refine forceL_rfv (by assumption) ?_); conv => whnf)
              | ((with_reducible refine forceNm_of ?_); conv => whnf)
              | ((with_reducible refine needm_of (fv_lenL (by assumption) (by assumption)) ?_); conv => whnf)
              | ((with_reducible refine optm_var (fv_strL (by assumption) (by assumption)) (fun s hs => ?_)); conv => whnf)
              | ((with_reducible refine forceA_of ?_); conv => whnf)
              | ((with_reducible refine forceL_fw (by assumption) ?_); conv => whnf)
              | ((with_reducible refine forceL_rfw (by assumption) ?_); conv => whnf)
              | ((with_reducible refine forceL_fl (by assumption) ?_); conv => whnf)
              | ((with_reducible refine forceL_rfl (by assumption) ?_); conv => whnf)
              | fail)
            refine ⟨clen - (i + 1), by omega, Into.weak [0] _ _ ⟨i + 1, fr, hs, by omega, rfl, hfr, hH, rfl, rfl⟩ ⟨rfl, rfl, rfl, rfl, congrArg (fun z => some (V.a (.int .i64 z))) e4, trivial⟩ ⟨ren_fl hfl _ _ _, trivial⟩ ?_⟩
            simp [nodupb, baseb, Ob.okb, frmOk, V.okb, A.okb, hfl.all] <;> decide
          · have d2 : decide (n > (s.size : Int)) = false := decide_eq_false g2
            obtain ⟨nt, rfl⟩ : ∃ nt : Nat, n = (nt : Int) := ⟨n.toNat, by omega⟩
            have hx1 := ext_to s l hl fr nt
            have hxs : (s.extract fr nt).size = nt - fr := by
              have := congrArg List.length hx1
              rw [Array.length_toList, List.length_take, List.length_drop] at this
              show (s.extract fr nt).data.size = _
              omega
            have hxl : ((l.drop fr).take (nt - fr)).length = nt - fr := by rw [List.length_take, List.length_drop]; omega
            have htt := take_to (l := l) (a := fr) (b := nt) (by omega)
            have hnn : (fr % 18446744073709551616 + (nt - fr)) % 18446744073709551616 = nt % 18446744073709551616 := by omega
            repeat' (first
              | rw [e2]
              | ((with_reducible refine regx_of ?_ ?_); (· decide +kernel); conv => whnf)
              | ((with_reducible refine growx_pre ?_ ?_); (· exact ⟨_, rfl⟩); conv => whnf)
              | ((with_reducible refine needm_of ?_ ?_); (· first | assumption | exact decide_eq_true (by omega) | decide +kernel | (refine decide_eq_true ?_; simp (disch := omega) only [i64w]; omega)); conv => whnf)
              | ((with_reducible refine condm_pos ?_ ?_); (· assumption); conv => whnf)
              | ((with_reducible refine condm_neg ?_ ?_); (· assumption); conv => whnf)
              | ((with_reducible refine forceL_fv (by assumption) ?_); conv => whnf)
              | ((with_reducible refine forceL_rfv (by assumption) ?_); conv => whnf)
              | ((with_reducible refine forceNm_of ?_); conv => whnf)
              | ((with_reducible refine needm_of (fv_lenL (by assumption) (by assumption)) ?_); conv => whnf)
              | ((with_reducible refine optm_var (fv_strL (by assumption) (by assumption)) (fun s hs => ?_)); conv => whnf)
              | ((with_reducible refine forceA_of ?_); conv => whnf)
              | ((with_reducible refine forceL_fw (by assumption) ?_); conv => whnf)
              | ((with_reducible refine forceL_rfw (by assumption) ?_); conv => whnf)
              | ((with_reducible refine forceL_fl (by assumption) ?_); conv => whnf)
              | ((with_reducible refine forceL_rfl (by assumption) ?_); conv => whnf)
              | fail)
            refine condm_of (fun hp => ?_) (fun hp => ?_)
            · conv => whnf
              repeat' (first
                | ((with_reducible refine regx_of ?_ ?_); (· decide +kernel); conv => whnf)
                | ((with_reducible refine growx_pre ?_ ?_); (· exact ⟨_, rfl⟩); conv => whnf)
                | ((with_reducible refine needm_of ?_ ?_); (· first | assumption | exact decide_eq_true (by omega) | decide +kernel | (refine decide_eq_true ?_; simp (disch := omega) only [i64w]; omega)); conv => whnf)
                | ((with_reducible refine condm_pos ?_ ?_); (· assumption); conv => whnf)
                | ((with_reducible refine condm_neg ?_ ?_); (· assumption); conv => whnf)
                | ((with_reducible refine forceL_fv (by assumption) ?_); conv => whnf)
                | ((with_reducible refine forceL_rfv (by assumption) ?_); conv => whnf)
                | ((with_reducible refine forceNm_of ?_); conv => whnf)
                | ((with_reducible refine needm_of (fv_lenL (by assumption) (by assumption)) ?_); conv => whnf)
                | ((with_reducible refine optm_var (fv_strL (by assumption) (by assumption)) (fun s hs => ?_)); conv => whnf)
                | ((with_reducible refine forceA_of ?_); conv => whnf)
                | ((with_reducible refine forceL_fw (by assumption) ?_); conv => whnf)
                | ((with_reducible refine forceL_rfw (by assumption) ?_); conv => whnf)
                | ((with_reducible refine forceL_fl (by assumption) ?_); conv => whnf)
                | ((with_reducible refine forceL_rfl (by assumption) ?_); conv => whnf)
                | fail)
              intro cap hcap
              conv => whnf
              rw [Int.toNat_natCast, Int.toNat_natCast] at hcap
              rw [Int.toNat_natCast, Int.toNat_natCast]
              generalize s.extract fr nt = q at *
              generalize (l.drop fr).take (nt - fr) = X at *
              obtain ⟨cs, hcs0⟩ : ∃ cs, cs = u8s q.data.toList ++ List.replicate (cap - q.size) (A.int .u8 0) := ⟨_, rfl⟩
              have hcs : cs = u8s (X ++ List.replicate (cap - q.size) 0) := by rw [hcs0, u8s_append, repl_u8', hx1]
              rw [← hcs0]
              conv => whnf
              repeat' (first
                | ((with_reducible refine regx_of ?_ ?_); (· decide +kernel); conv => whnf)
                | ((with_reducible refine growx_pre ?_ ?_); (· exact ⟨_, rfl⟩); conv => whnf)
                | ((with_reducible refine needm_of ?_ ?_); (· first | assumption | exact decide_eq_true (by omega) | decide +kernel | (refine decide_eq_true ?_; simp (disch := omega) only [i64w]; omega)); conv => whnf)
                | ((with_reducible refine condm_pos ?_ ?_); (· assumption); conv => whnf)
                | ((with_reducible refine condm_neg ?_ ?_); (· assumption); conv => whnf)
                | ((with_reducible refine forceL_fv (by assumption) ?_); conv => whnf)
                | ((with_reducible refine forceL_rfv (by assumption) ?_); conv => whnf)
                | ((with_reducible refine forceNm_of ?_); conv => whnf)
                | ((with_reducible refine needm_of (fv_lenL (by assumption) (by assumption)) ?_); conv => whnf)
                | ((with_reducible refine optm_var (fv_strL (by assumption) (by assumption)) (fun s hs => ?_)); conv => whnf)
                | ((with_reducible refine forceA_of ?_); conv => whnf)
                | ((with_reducible refine forceL_fw (by assumption) ?_); conv => whnf)
                | ((with_reducible refine forceL_rfw (by assumption) ?_); conv => whnf)
                | ((with_reducible refine forceL_fl (by assumption) ?_); conv => whnf)
                | ((with_reducible refine forceL_rfl (by assumption) ?_); conv => whnf)
                | fail)
              refine Go.Eng.Fn.frame [0, 1] (by rfl) (by exact ⟨ren_fl hfl _ _ _, ren_fv hcs _ _ _, trivial⟩) (by simp [nodupb, V.okb, A.okb, Ob.okb, hfl.all, all_fv hcs] <;> decide) (write31 (l.take fr) (fr % 18446744073709551616) hs cs _ 0 q.size cap true hH hcs (by rw [List.length_append]; omega) hcap (by omega) (fun h2 hh2 => ?_))
              rw [List.drop_zero, List.take_left' (by omega), htt, hxs, hnn] at hh2
              have hfl2 := hh2.flat
              conv => whnf
              repeat' (first
                | ((with_reducible refine regx_of ?_ ?_); (· decide +kernel); conv => whnf)
                | ((with_reducible refine growx_pre ?_ ?_); (· exact ⟨_, rfl⟩); conv => whnf)
                | ((with_reducible refine needm_of ?_ ?_); (· first | assumption | exact decide_eq_true (by omega) | decide +kernel | (refine decide_eq_true ?_; simp (disch := omega) only [i64w]; omega)); conv => whnf)
                | ((with_reducible refine condm_pos ?_ ?_); (· assumption); conv => whnf)
                | ((with_reducible refine condm_neg ?_ ?_); (· assumption); conv => whnf)
                | ((with_reducible refine forceL_fv (by assumption) ?_); conv => whnf)
                | ((with_reducible refine forceL_rfv (by assumption) ?_); conv => whnf)
                | ((with_reducible refine forceNm_of ?_); conv => whnf)
                | ((with_reducible refine needm_of (fv_lenL (by assumption) (by assumption)) ?_); conv => whnf)
                | ((with_reducible refine optm_var (fv_strL (by assumption) (by assumption)) (fun s hs => ?_)); conv => whnf)
                | ((with_reducible refine forceA_of ?_); conv => whnf)
                | ((with_reducible refine forceL_fw (by assumption) ?_); conv => whnf)
                | ((with_reducible refine forceL_rfw (by assumption) ?_); conv => whnf)
                | ((with_reducible refine forceL_fl (by assumption) ?_); conv => whnf)
                | ((with_reducible refine forceL_rfl (by assumption) ?_); conv => whnf)
                | fail)
              refine ⟨clen - (i + 1), by omega, Into.weak [0] _ _ ⟨i + 1, nt, h2, by omega, rfl, by omega, hh2, rfl, rfl⟩ ⟨rfl, rfl, rfl, rfl, congrArg (fun z => some (V.a (.int .i64 z))) e4, trivial⟩ ⟨ren_fl hfl2 _ _ _, trivial⟩ ?_⟩
              simp [nodupb, baseb, Ob.okb, frmOk, V.okb, A.okb, hfl2.all] <;> decide
            · conv => whnf
              repeat' (first
                | ((with_reducible refine regx_of ?_ ?_); (· decide +kernel); conv => whnf)
                | ((with_reducible refine growx_pre ?_ ?_); (· exact ⟨_, rfl⟩); conv => whnf)
                | ((with_reducible refine needm_of ?_ ?_); (· first | assumption | exact decide_eq_true (by omega) | decide +kernel | (refine decide_eq_true ?_; simp (disch := omega) only [i64w]; omega)); conv => whnf)
                | ((with_reducible refine condm_pos ?_ ?_); (· assumption); conv => whnf)
                | ((with_reducible refine condm_neg ?_ ?_); (· assumption); conv => whnf)
                | ((with_reducible refine forceL_fv (by assumption) ?_); conv => whnf)
                | ((with_reducible refine forceL_rfv (by assumption) ?_); conv => whnf)
                | ((with_reducible refine forceNm_of ?_); conv => whnf)
                | ((with_reducible refine needm_of (fv_lenL (by assumption) (by assumption)) ?_); conv => whnf)
                | ((with_reducible refine optm_var (fv_strL (by assumption) (by assumption)) (fun s hs => ?_)); conv => whnf)
                | ((with_reducible refine forceA_of ?_); conv => whnf)
                | ((with_reducible refine forceL_fw (by assumption) ?_); conv => whnf)
                | ((with_reducible refine forceL_rfw (by assumption) ?_); conv => whnf)
                | ((with_reducible refine forceL_fl (by assumption) ?_); conv => whnf)
                | ((with_reducible refine forceL_rfl (by assumption) ?_); conv => whnf)
                | fail)
              rw [Int.toNat_natCast, Int.toNat_natCast]
              refine Go.Eng.Fn.frame [0] (by rfl) (by exact ⟨ren_fl hfl _ _ _, trivial⟩) (by simp [nodupb, V.okb, A.okb, Ob.okb, hfl.all]) (text32 (l.take fr) (fr % 18446744073709551616) hs _ _ hx1.symm (by omega) hH (fun h2 hh2 => ?_))
              rw [htt, hxl, hnn] at hh2
              have hfl2 := hh2.flat
              conv => whnf
              repeat' (first
                | ((with_reducible refine regx_of ?_ ?_); (· decide +kernel); conv => whnf)
                | ((with_reducible refine growx_pre ?_ ?_); (· exact ⟨_, rfl⟩); conv => whnf)
                | ((with_reducible refine needm_of ?_ ?_); (· first | assumption | exact decide_eq_true (by omega) | decide +kernel | (refine decide_eq_true ?_; simp (disch := omega) only [i64w]; omega)); conv => whnf)
                | ((with_reducible refine condm_pos ?_ ?_); (· assumption); conv => whnf)
                | ((with_reducible refine condm_neg ?_ ?_); (· assumption); conv => whnf)
                | ((with_reducible refine forceL_fv (by assumption) ?_); conv => whnf)
                | ((with_reducible refine forceL_rfv (by assumption) ?_); conv => whnf)
                | ((with_reducible refine forceNm_of ?_); conv => whnf)
                | ((with_reducible refine needm_of (fv_lenL (by assumption) (by assumption)) ?_); conv => whnf)
                | ((with_reducible refine optm_var (fv_strL (by assumption) (by assumption)) (fun s hs => ?_)); conv => whnf)
                | ((with_reducible refine forceA_of ?_); conv => whnf)
                | ((with_reducible refine forceL_fw (by assumption) ?_); conv => whnf)
                | ((with_reducible refine forceL_rfw (by assumption) ?_); conv => whnf)
                | ((with_reducible refine forceL_fl (by assumption) ?_); conv => whnf)
                | ((with_reducible refine forceL_rfl (by assumption) ?_); conv => whnf)
                | fail)
              refine ⟨clen - (i + 1), by omega, Into.weak [0] _ _ ⟨i + 1, nt, h2, by omega, rfl, by omega, hh2, rfl, rfl⟩ ⟨rfl, rfl, rfl, rfl, congrArg (fun z => some (V.a (.int .i64 z))) e4, trivial⟩ ⟨ren_fl hfl2 _ _ _, trivial⟩ ?_⟩
              simp [nodupb, baseb, Ob.okb, frmOk, V.okb, A.okb, hfl2.all] <;> decide
      ·
        conv => whnf
        repeat' (first
          | ((with_reducible refine regx_of ?_ ?_); (· decide +kernel); conv => whnf)
          | ((with_reducible refine growx_pre ?_ ?_); (· exact ⟨_, rfl⟩); conv => whnf)
          | ((with_reducible refine needm_of ?_ ?_); (· first | assumption | exact decide_eq_true (by omega) | decide +kernel | (refine decide_eq_true ?_; simp (disch := omega) only [i64w]; omega)); conv => whnf)
          | ((with_reducible refine condm_pos ?_ ?_); (· assumption); conv => whnf)
          | ((with_reducible refine condm_neg ?_ ?_); (· assumption); conv => whnf)
          | ((with_reducible refine forceL_fv (by assumption) ?_); conv => whnf)
          | ((with_reducible refine forceL_rfv (by assumption) ?_); conv => whnf)
          | ((with_reducible refine forceNm_of ?_); conv => whnf)
          | ((with_reducible refine needm_of (fv_lenL (by assumption) (by assumption)) ?_); conv => whnf)
          | ((with_reducible refine optm_var (fv_strL (by assumption) (by assumption)) (fun s hs => ?_)); conv => whnf)
          | ((with_reducible refine forceA_of ?_); conv => whnf)
          | ((with_reducible refine forceL_fw (by assumption) ?_); conv => whnf)
          | ((with_reducible refine forceL_rfw (by assumption) ?_); conv => whnf)
          | ((with_reducible refine forceL_fl (by assumption) ?_); conv => whnf)
          | ((with_reducible refine forceL_rfl (by assumption) ?_); conv => whnf)
          | fail)
        have hx1 : (s.extract fr s.size).data.toList = l.drop fr := by
          rw [ByteArray.data_extract, Array.toList_extract, ← hl, List.extract_eq_take_drop, List.take_of_length_le (by rw [List.length_drop]; omega)]
        refine Go.Eng.Fn.frame [0] (by rfl) (by exact ⟨ren_fl hfl _ _ _, trivial⟩) (by simp [nodupb, V.okb, A.okb, Ob.okb, hfl.all]) (text32 (l.take fr) (fr % 18446744073709551616) hs _ (l.drop fr) hx1.symm (by rw [List.length_drop]; omega) hH (fun h2 hh2 => ?_))
        rw [List.take_append_drop, List.length_drop, show (fr % 18446744073709551616 + (l.length - fr)) % 18446744073709551616 = l.length % 18446744073709551616 by omega] at hh2
        have hfl2 := hh2.flat
        conv => whnf
        repeat' (first
          | ((with_reducible refine regx_of ?_ ?_); (· decide +kernel); conv => whnf)
          | ((with_reducible refine growx_pre ?_ ?_); (· exact ⟨_, rfl⟩); conv => whnf)
          | ((with_reducible refine needm_of ?_ ?_); (· first | assumption | exact decide_eq_true (by omega) | decide +kernel | (refine decide_eq_true ?_; simp (disch := omega) only [i64w]; omega)); conv => whnf)
          | ((with_reducible refine condm_pos ?_ ?_); (· assumption); conv => whnf)
          | ((with_reducible refine condm_neg ?_ ?_); (· assumption); conv => whnf)
          | ((with_reducible refine forceL_fv (by assumption) ?_); conv => whnf)
          | ((with_reducible refine forceL_rfv (by assumption) ?_); conv => whnf)
          | ((with_reducible refine forceNm_of ?_); conv => whnf)
          | ((with_reducible refine needm_of (fv_lenL (by assumption) (by assumption)) ?_); conv => whnf)
          | ((with_reducible refine optm_var (fv_strL (by assumption) (by assumption)) (fun s hs => ?_)); conv => whnf)
          | ((with_reducible refine forceA_of ?_); conv => whnf)
          | ((with_reducible refine forceL_fw (by assumption) ?_); conv => whnf)
          | ((with_reducible refine forceL_rfw (by assumption) ?_); conv => whnf)
          | ((with_reducible refine forceL_fl (by assumption) ?_); conv => whnf)
          | ((with_reducible refine forceL_rfl (by assumption) ?_); conv => whnf)
          | fail)
        intro cap hcap
        conv => whnf
        obtain ⟨c1, hc10⟩ : ∃ cs, cs = u8s s.data.toList ++ List.replicate (cap - s.size) (A.int .u8 0) := ⟨_, rfl⟩
        have hc1 : c1 = u8s (l ++ List.replicate (cap - s.size) 0) := by rw [hc10, u8s_append, repl_u8', hl]
        rw [← hc10]
        conv => whnf
        repeat' (first
          | ((with_reducible refine regx_of ?_ ?_); (· decide +kernel); conv => whnf)
          | ((with_reducible refine growx_pre ?_ ?_); (· exact ⟨_, rfl⟩); conv => whnf)
          | ((with_reducible refine needm_of ?_ ?_); (· first | assumption | exact decide_eq_true (by omega) | decide +kernel | (refine decide_eq_true ?_; simp (disch := omega) only [i64w]; omega)); conv => whnf)
          | ((with_reducible refine condm_pos ?_ ?_); (· assumption); conv => whnf)
          | ((with_reducible refine condm_neg ?_ ?_); (· assumption); conv => whnf)
          | ((with_reducible refine forceL_fv (by assumption) ?_); conv => whnf)
          | ((with_reducible refine forceL_rfv (by assumption) ?_); conv => whnf)
          | ((with_reducible refine forceNm_of ?_); conv => whnf)
          | ((with_reducible refine needm_of (fv_lenL (by assumption) (by assumption)) ?_); conv => whnf)
          | ((with_reducible refine optm_var (fv_strL (by assumption) (by assumption)) (fun s hs => ?_)); conv => whnf)
          | ((with_reducible refine forceA_of ?_); conv => whnf)
          | ((with_reducible refine forceL_fw (by assumption) ?_); conv => whnf)
          | ((with_reducible refine forceL_rfw (by assumption) ?_); conv => whnf)
          | ((with_reducible refine forceL_fl (by assumption) ?_); conv => whnf)
          | ((with_reducible refine forceL_rfl (by assumption) ?_); conv => whnf)
          | fail)
        rw [u64w, hsz]
        have hpd : l ++ fillS (l.length % 18446744073709551616) = padded l := by unfold padded; rfl
        obtain ⟨kB, hkB, hkB2⟩ := padded_length l
        refine Go.Eng.Fn.frame [] (by rfl) (by exact trivial) (by rfl) (fill13 (l.length % 18446744073709551616) (fun x fs flen fcap hfs hflen hfcap => ?_))
        have hPl : (padded l).length = l.length + flen := by rw [← hpd, List.length_append, hflen]
        generalize fillS (l.length % 18446744073709551616) = Fi at *
        have hfn : List.drop 0 (List.take (0 + flen * Try.prog.types[5].size) fs) = u8s Fi := by
          rw [s5, hfs, List.drop_zero, u8s_take, List.take_append_of_le_length (by omega), List.take_of_length_le (by omega)]
        conv => whnf
        repeat' (first
          | ((with_reducible refine regx_of ?_ ?_); (· decide +kernel); conv => whnf)
          | ((with_reducible refine growx_pre ?_ ?_); (· exact ⟨_, rfl⟩); conv => whnf)
          | ((with_reducible refine needm_of ?_ ?_); (· first | assumption | exact decide_eq_true (by omega) | decide +kernel | (refine decide_eq_true ?_; simp (disch := omega) only [i64w]; omega)); conv => whnf)
          | ((with_reducible refine condm_pos ?_ ?_); (· assumption); conv => whnf)
          | ((with_reducible refine condm_neg ?_ ?_); (· assumption); conv => whnf)
          | ((with_reducible refine forceL_fv (by assumption) ?_); conv => whnf)
          | ((with_reducible refine forceL_rfv (by assumption) ?_); conv => whnf)
          | ((with_reducible refine forceNm_of ?_); conv => whnf)
          | ((with_reducible refine needm_of (fv_lenL (by assumption) (by assumption)) ?_); conv => whnf)
          | ((with_reducible refine optm_var (fv_strL (by assumption) (by assumption)) (fun s hs => ?_)); conv => whnf)
          | ((with_reducible refine forceA_of ?_); conv => whnf)
          | ((with_reducible refine forceL_fw (by assumption) ?_); conv => whnf)
          | ((with_reducible refine forceL_rfw (by assumption) ?_); conv => whnf)
          | ((with_reducible refine forceL_fl (by assumption) ?_); conv => whnf)
          | ((with_reducible refine forceL_rfl (by assumption) ?_); conv => whnf)
          | fail)
        refine needm_of (decide_eq_true (by rw [s5, u8s_len hfs, List.length_append]; omega)) ?_
        conv => whnf
        rw [hfn]
        refine condm_of (fun hc => ?_) (fun hc => ?_)
        · have hc' := of_decide_eq_true hc
          conv => whnf
          refine needm_of (decide_eq_true (by rw [s5, u8s_length, u8s_len hc1, List.length_append, List.length_replicate]; omega)) ?_
          conv => whnf
          repeat' (first
            | ((with_reducible refine regx_of ?_ ?_); (· decide +kernel); conv => whnf)
            | ((with_reducible refine growx_pre ?_ ?_); (· exact ⟨_, rfl⟩); conv => whnf)
            | ((with_reducible refine needm_of ?_ ?_); (· first | assumption | exact decide_eq_true (by omega) | decide +kernel | (refine decide_eq_true ?_; simp (disch := omega) only [i64w]; omega)); conv => whnf)
            | ((with_reducible refine condm_pos ?_ ?_); (· assumption); conv => whnf)
            | ((with_reducible refine condm_neg ?_ ?_); (· assumption); conv => whnf)
            | ((with_reducible refine forceL_fv (by assumption) ?_); conv => whnf)
            | ((with_reducible refine forceL_rfv (by assumption) ?_); conv => whnf)
            | ((with_reducible refine forceNm_of ?_); conv => whnf)
            | ((with_reducible refine needm_of (fv_lenL (by assumption) (by assumption)) ?_); conv => whnf)
            | ((with_reducible refine optm_var (fv_strL (by assumption) (by assumption)) (fun s hs => ?_)); conv => whnf)
            | ((with_reducible refine forceA_of ?_); conv => whnf)
            | ((with_reducible refine forceL_fw (by assumption) ?_); conv => whnf)
            | ((with_reducible refine forceL_rfw (by assumption) ?_); conv => whnf)
            | ((with_reducible refine forceL_fl (by assumption) ?_); conv => whnf)
            | ((with_reducible refine forceL_rfl (by assumption) ?_); conv => whnf)
            | fail)
          refine forceL_var (l' := u8s (padded l ++ List.replicate (cap - s.size - flen) 0)) ?_ (fun cs2 hcs2 => ?_)
          · rw [hc1, s5, Nat.zero_add, Nat.mul_one, storeL_u8 _ _ _ (by rw [List.length_append, List.length_replicate]; omega), List.take_left' rfl, hpd]
            congr 1
            rw [List.append_cancel_left_eq, ← hflen, List.drop_append, List.drop_of_length_le (by omega), List.nil_append, List.drop_replicate, show cap - s.size - (l.length + flen - l.length) = cap - s.size - flen by omega]
          generalize hbl : l.length + flen = bl at *
          have d1 : ((bl : Int).tmod 64 != 0) = false := by
            rw [show (64 : Int) = ((64 : Nat) : Int) from rfl, tmodN, show bl % 64 = 0 by omega]
            rfl
          have d2 : decide ((bl : Int) < IntKind.i64.wrap ((s.size : Int) + 9)) = false := by
            rw [hsz, i64w (by omega) (by omega)]
            exact decide_eq_false (by omega)
          have d3 : decide ((bl : Int) > IntKind.i64.wrap ((s.size : Int) + 72)) = false := by
            rw [hsz, i64w (by omega) (by omega)]
            exact decide_eq_false (by omega)
          rw [hsz] at d2 d3
          conv => whnf
          repeat' (first
            | rw [hsz]
            | ((with_reducible refine regx_of ?_ ?_); (· decide +kernel); conv => whnf)
            | ((with_reducible refine growx_pre ?_ ?_); (· exact ⟨_, rfl⟩); conv => whnf)
            | ((with_reducible refine needm_of ?_ ?_); (· first | assumption | exact decide_eq_true (by omega) | decide +kernel | (refine decide_eq_true ?_; simp (disch := omega) only [i64w]; omega)); conv => whnf)
            | ((with_reducible refine condm_pos ?_ ?_); (· assumption); conv => whnf)
            | ((with_reducible refine condm_neg ?_ ?_); (· assumption); conv => whnf)
            | ((with_reducible refine forceL_fv (by assumption) ?_); conv => whnf)
            | ((with_reducible refine forceL_rfv (by assumption) ?_); conv => whnf)
            | ((with_reducible refine forceNm_of ?_); conv => whnf)
            | ((with_reducible refine needm_of (fv_lenL (by assumption) (by assumption)) ?_); conv => whnf)
            | ((with_reducible refine optm_var (fv_strL (by assumption) (by assumption)) (fun s hs => ?_)); conv => whnf)
            | ((with_reducible refine forceA_of ?_); conv => whnf)
            | ((with_reducible refine forceL_fw (by assumption) ?_); conv => whnf)
            | ((with_reducible refine forceL_rfw (by assumption) ?_); conv => whnf)
            | ((with_reducible refine forceL_fl (by assumption) ?_); conv => whnf)
            | ((with_reducible refine forceL_rfl (by assumption) ?_); conv => whnf)
            | fail)
          refine Go.Eng.Fn.frame [] (by rfl) (by exact trivial) (by rfl) (start23 (fun ks hks => ?_))
          have hks' : ks = u32s s0.row := by rw [hks]; unfold u32s; rfl
          clear hks
          have hkl : ks.length = 8 := by rw [fw_len hks']; rfl
          conv => whnf
          repeat' (first
            | rw [← hz8]
            | ((with_reducible refine regx_of ?_ ?_); (· decide +kernel); conv => whnf)
            | ((with_reducible refine growx_pre ?_ ?_); (· exact ⟨_, rfl⟩); conv => whnf)
            | ((with_reducible refine needm_of ?_ ?_); (· first | assumption | exact decide_eq_true (by omega) | decide +kernel | (refine decide_eq_true ?_; simp (disch := omega) only [i64w]; omega)); conv => whnf)
            | ((with_reducible refine condm_pos ?_ ?_); (· assumption); conv => whnf)
            | ((with_reducible refine condm_neg ?_ ?_); (· assumption); conv => whnf)
            | ((with_reducible refine forceL_fv (by assumption) ?_); conv => whnf)
            | ((with_reducible refine forceL_rfv (by assumption) ?_); conv => whnf)
            | ((with_reducible refine forceNm_of ?_); conv => whnf)
            | ((with_reducible refine needm_of (fv_lenL (by assumption) (by assumption)) ?_); conv => whnf)
            | ((with_reducible refine optm_var (fv_strL (by assumption) (by assumption)) (fun s hs => ?_)); conv => whnf)
            | ((with_reducible refine forceA_of ?_); conv => whnf)
            | ((with_reducible refine forceL_fw (by assumption) ?_); conv => whnf)
            | ((with_reducible refine forceL_rfw (by assumption) ?_); conv => whnf)
            | ((with_reducible refine forceL_fl (by assumption) ?_); conv => whnf)
            | ((with_reducible refine forceL_rfl (by assumption) ?_); conv => whnf)
            | fail)
          refine needm_of (by rw [hkl, h8l]; rfl) ?_
          conv => whnf
          repeat' (first
            | ((with_reducible refine regx_of ?_ ?_); (· decide +kernel); conv => whnf)
            | ((with_reducible refine growx_pre ?_ ?_); (· exact ⟨_, rfl⟩); conv => whnf)
            | ((with_reducible refine needm_of ?_ ?_); (· first | assumption | exact decide_eq_true (by omega) | decide +kernel | (refine decide_eq_true ?_; simp (disch := omega) only [i64w]; omega)); conv => whnf)
            | ((with_reducible refine condm_pos ?_ ?_); (· assumption); conv => whnf)
            | ((with_reducible refine condm_neg ?_ ?_); (· assumption); conv => whnf)
            | ((with_reducible refine forceL_fv (by assumption) ?_); conv => whnf)
            | ((with_reducible refine forceL_rfv (by assumption) ?_); conv => whnf)
            | ((with_reducible refine forceNm_of ?_); conv => whnf)
            | ((with_reducible refine needm_of (fv_lenL (by assumption) (by assumption)) ?_); conv => whnf)
            | ((with_reducible refine optm_var (fv_strL (by assumption) (by assumption)) (fun s hs => ?_)); conv => whnf)
            | ((with_reducible refine forceA_of ?_); conv => whnf)
            | ((with_reducible refine forceL_fw (by assumption) ?_); conv => whnf)
            | ((with_reducible refine forceL_rfw (by assumption) ?_); conv => whnf)
            | ((with_reducible refine forceL_fl (by assumption) ?_); conv => whnf)
            | ((with_reducible refine forceL_rfl (by assumption) ?_); conv => whnf)
            | fail)
          refine forceL_to (store_all (by rw [hkl, h8l])) ?_
          conv => whnf
          repeat' (first
            | ((with_reducible refine regx_of ?_ ?_); (· decide +kernel); conv => whnf)
            | ((with_reducible refine growx_pre ?_ ?_); (· exact ⟨_, rfl⟩); conv => whnf)
            | ((with_reducible refine needm_of ?_ ?_); (· first | assumption | exact decide_eq_true (by omega) | decide +kernel | (refine decide_eq_true ?_; simp (disch := omega) only [i64w]; omega)); conv => whnf)
            | ((with_reducible refine condm_pos ?_ ?_); (· assumption); conv => whnf)
            | ((with_reducible refine condm_neg ?_ ?_); (· assumption); conv => whnf)
            | ((with_reducible refine forceL_fv (by assumption) ?_); conv => whnf)
            | ((with_reducible refine forceL_rfv (by assumption) ?_); conv => whnf)
            | ((with_reducible refine forceNm_of ?_); conv => whnf)
            | ((with_reducible refine needm_of (fv_lenL (by assumption) (by assumption)) ?_); conv => whnf)
            | ((with_reducible refine optm_var (fv_strL (by assumption) (by assumption)) (fun s hs => ?_)); conv => whnf)
            | ((with_reducible refine forceA_of ?_); conv => whnf)
            | ((with_reducible refine forceL_fw (by assumption) ?_); conv => whnf)
            | ((with_reducible refine forceL_rfw (by assumption) ?_); conv => whnf)
            | ((with_reducible refine forceL_fl (by assumption) ?_); conv => whnf)
            | ((with_reducible refine forceL_rfl (by assumption) ?_); conv => whnf)
            | fail)
          have hdg : digest l = outB (blk kB (padded l)) := by unfold digest; rw [hkB, Nat.mul_div_cancel_left _ (by decide)]
          generalize hPd : padded l = Pd at *
          refine loopx_of (fun m F H => ∃ (k : Nat) (ss : List A), k ≤ kB ∧ m = kB - k ∧ ss = u32s (blk k Pd).row ∧ F = [(0, .a (.str s)), (5, .a (.ptr 0 0)), (9, .a (.slc 1 0 bl cap)), (10, .a (.ptr 2 0)), (11, .a (.int .i64 (64 * k : Nat)))] ∧ H = [.cells h2 68 false, .cells cs2 5 true, .cells ss 33 false]) kB ?_ ?_
          · refine Into.weak [0, 1, 3] _ _ ⟨0, ks, by omega, rfl, by rw [blk_0]; exact hks', rfl, rfl⟩ ⟨rfl, rfl, rfl, rfl, rfl, trivial⟩ ⟨ren_fl hfl2 _ _ _, ren_fv hcs2 _ _ _, ren_fw hks' _ _ _, trivial⟩ ?_
            simp [nodupb, baseb, Ob.okb, frmOk, V.okb, A.okb, hfl2.all, all_fv hcs2, all_fw hks'] <;> decide
          · clear hks' hkl ks
            rintro m F H ⟨k, ss, hk, rfl, hss, rfl, rfl⟩
            have hsl : ss.length = 8 := by rw [fw_len hss]; rfl
            conv => whnf
            refine condm_of (fun h => ?_) (fun h => ?_)
            · have hkk : k < kB := by have := of_decide_eq_true h; omega
              have e4 : IntKind.i64.wrap (((64 * k : Nat) : Int) + 64) = ((64 * (k + 1) : Nat) : Int) := by rw [i64w (by omega) (by omega)]; omega
              have hbs := blk_succ k Pd
              conv => whnf
              repeat' (first
                | rw [← hz8]
                | rw [e4]
                | ((with_reducible refine regx_of ?_ ?_); (· decide +kernel); conv => whnf)
                | ((with_reducible refine growx_pre ?_ ?_); (· exact ⟨_, rfl⟩); conv => whnf)
                | ((with_reducible refine needm_of ?_ ?_); (· first | assumption | exact decide_eq_true (by omega) | decide +kernel | (refine decide_eq_true ?_; simp (disch := omega) only [i64w]; omega)); conv => whnf)
                | ((with_reducible refine condm_pos ?_ ?_); (· assumption); conv => whnf)
                | ((with_reducible refine condm_neg ?_ ?_); (· assumption); conv => whnf)
                | ((with_reducible refine forceL_fv (by assumption) ?_); conv => whnf)
                | ((with_reducible refine forceL_rfv (by assumption) ?_); conv => whnf)
                | ((with_reducible refine forceNm_of ?_); conv => whnf)
                | ((with_reducible refine needm_of (fv_lenL (by assumption) (by assumption)) ?_); conv => whnf)
                | ((with_reducible refine optm_var (fv_strL (by assumption) (by assumption)) (fun s hs => ?_)); conv => whnf)
                | ((with_reducible refine forceA_of ?_); conv => whnf)
                | ((with_reducible refine forceL_fw (by assumption) ?_); conv => whnf)
                | ((with_reducible refine forceL_rfw (by assumption) ?_); conv => whnf)
                | ((with_reducible refine forceL_fl (by assumption) ?_); conv => whnf)
                | ((with_reducible refine forceL_rfl (by assumption) ?_); conv => whnf)
                | fail)
              refine needm_of (by rw [hsl]; rfl) ?_
              conv => whnf
              refine forceL_to (whole_of (by rw [hsl]; rfl)) ?_
              conv => whnf
              have es : (if cap = (((64 * k : Nat) : Int)).toNat then 0 else 0 + (((64 * k : Nat) : Int)).toNat * Try.prog.types[5].size) = 64 * k := by
                rw [Int.toNat_natCast, if_neg (by omega), s5]; omega
              have el : (((64 * (k + 1) : Nat) : Int)).toNat - (((64 * k : Nat) : Int)).toNat = 64 := by
                rw [Int.toNat_natCast, Int.toNat_natCast]; omega
              repeat' (first
                | rw [← hz8]
                | rw [e4]
                | rw [es]
                | rw [el]
                | ((with_reducible refine regx_of ?_ ?_); (· decide +kernel); conv => whnf)
                | ((with_reducible refine growx_pre ?_ ?_); (· exact ⟨_, rfl⟩); conv => whnf)
                | ((with_reducible refine needm_of ?_ ?_); (· first | assumption | exact decide_eq_true (by omega) | decide +kernel | (refine decide_eq_true ?_; simp (disch := omega) only [i64w]; omega)); conv => whnf)
                | ((with_reducible refine condm_pos ?_ ?_); (· assumption); conv => whnf)
                | ((with_reducible refine condm_neg ?_ ?_); (· assumption); conv => whnf)
                | ((with_reducible refine forceL_fv (by assumption) ?_); conv => whnf)
                | ((with_reducible refine forceL_rfv (by assumption) ?_); conv => whnf)
                | ((with_reducible refine forceNm_of ?_); conv => whnf)
                | ((with_reducible refine needm_of (fv_lenL (by assumption) (by assumption)) ?_); conv => whnf)
                | ((with_reducible refine optm_var (fv_strL (by assumption) (by assumption)) (fun s hs => ?_)); conv => whnf)
                | ((with_reducible refine forceA_of ?_); conv => whnf)
                | ((with_reducible refine forceL_fw (by assumption) ?_); conv => whnf)
                | ((with_reducible refine forceL_rfw (by assumption) ?_); conv => whnf)
                | ((with_reducible refine forceL_fl (by assumption) ?_); conv => whnf)
                | ((with_reducible refine forceL_rfl (by assumption) ?_); conv => whnf)
                | ((with_reducible refine And.intro ?_ ?_) <;> (conv => whnf))
                | ((refine Go.Eng.Fn.frame [1] (by simp [V.ren, (Flat.u32 hss).ren, A.ren, dsOf]) (by exact ⟨ren_fv hcs2 _ _ _, trivial⟩) (by simp [nodupb, V.okb, A.okb, Ob.okb, all_fv hcs2, (Flat.u32 hss).all]) (block21o (blk k Pd) ss hss cs2 _ ((Pd.drop (64 * k)).take 64) (64 * k) (cap - (((64 * k : Nat) : Int)).toNat) hcs2 (by rw [List.length_append]; omega) (by rw [List.drop_append_of_le_length (by omega), List.take_append_of_le_length (by rw [List.length_drop]; omega)]) (fun rs hrs => ?_))); rw [← hbs] at hrs; (have hrl : rs.length = 8 := by rw [fw_len hrs]; rfl); conv => whnf)
                | ((refine growx_pre ⟨[], by rw [List.append_nil]; exact (plug_one rfl (ren_fb (Flat.u8 hcs2) _ _ _)).symm⟩ ?_); conv => whnf)
                | ((with_reducible refine needm_of ?_ ?_); (· first | (rw [hrl, h8l]; rfl) | (rw [hrl, hsl]; rfl) | (rw [hrl]; rfl)); conv => whnf)
                | ((with_reducible refine forceL_to (whole_of ?_) ?_); (· rw [hrl]; rfl); conv => whnf)
                | ((with_reducible refine forceL_to (store_all ?_) ?_); (· first | rw [hrl, h8l] | rw [hrl, hsl]); conv => whnf)
                | fail)
              all_goals first
                | (refine ⟨kB - (k + 1), by omega, Into.weak [0, 1, 2] _ _ ⟨k + 1, rs, by omega, rfl, hrs, rfl, rfl⟩ ⟨rfl, rfl, rfl, rfl, rfl, trivial⟩ ⟨ren_fl hfl2 _ _ _, ren_fv hcs2 _ _ _, ren_fw hrs _ _ _, trivial⟩ ?_⟩; simp [nodupb, baseb, Ob.okb, frmOk, V.okb, A.okb, hfl2.all, all_fv hcs2, all_fw hrs] <;> decide)
                | exact ⟨[], by rw [List.append_nil]; exact (plug_one rfl (ren_fb (Flat.u8 hcs2) _ _ _)).symm⟩
            · have hkk : k = kB := by have := of_decide_eq_false h; omega
              rw [hkk] at hss
              generalize blk kB Pd = S at *
              conv => whnf
              repeat' (first
                | rw [← hz32]
                | ((with_reducible refine regx_of ?_ ?_); (· decide +kernel); conv => whnf)
                | ((with_reducible refine growx_pre ?_ ?_); (· exact ⟨_, rfl⟩); conv => whnf)
                | ((with_reducible refine needm_of ?_ ?_); (· first | assumption | exact decide_eq_true (by omega) | decide +kernel | (refine decide_eq_true ?_; simp (disch := omega) only [i64w]; omega)); conv => whnf)
                | ((with_reducible refine condm_pos ?_ ?_); (· assumption); conv => whnf)
                | ((with_reducible refine condm_neg ?_ ?_); (· assumption); conv => whnf)
                | ((with_reducible refine forceL_fv (by assumption) ?_); conv => whnf)
                | ((with_reducible refine forceL_rfv (by assumption) ?_); conv => whnf)
                | ((with_reducible refine forceNm_of ?_); conv => whnf)
                | ((with_reducible refine needm_of (fv_lenL (by assumption) (by assumption)) ?_); conv => whnf)
                | ((with_reducible refine optm_var (fv_strL (by assumption) (by assumption)) (fun s hs => ?_)); conv => whnf)
                | ((with_reducible refine forceA_of ?_); conv => whnf)
                | ((with_reducible refine forceL_fw (by assumption) ?_); conv => whnf)
                | ((with_reducible refine forceL_rfw (by assumption) ?_); conv => whnf)
                | ((with_reducible refine forceL_fl (by assumption) ?_); conv => whnf)
                | ((with_reducible refine forceL_rfl (by assumption) ?_); conv => whnf)
                | fail)
              refine loopx_of (fun m F H => ∃ (i : Nat) (os : List A) (O : List UInt8), i ≤ 32 ∧ m = 32 - i ∧ os = u8s O ∧ O.length = 32 ∧ (∀ j, j < i → O[j]? = (outB S)[j]?) ∧ F = [(0, .a (.str s)), (5, .a (.ptr 0 0)), (10, .a (.ptr 1 0)), (14, .a (.ptr 2 0)), (15, .a (.int .i64 i))] ∧ H = [.cells h2 68 false, .cells ss 33 false, .cells os 41 false]) 32 ?_ ?_
              · refine Into.weak [0, 2, 3] _ _ ⟨0, z32, _, by omega, rfl, hz, by simp, fun j hj => by omega, rfl, rfl⟩ ⟨rfl, rfl, rfl, rfl, rfl, trivial⟩ ⟨ren_fl hfl2 _ _ _, ren_fw hss _ _ _, ren_fv hz _ _ _, trivial⟩ ?_
                simp [nodupb, baseb, Ob.okb, frmOk, V.okb, A.okb, hfl2.all, all_fv hz, all_fw hss] <;> decide
              · rintro m F H ⟨i, os, O, hi, rfl, hos, hO, hOj, rfl, rfl⟩
                conv => whnf
                refine condm_of (fun h => ?_) (fun h => ?_)
                · have hi32 : i < 32 := by have := of_decide_eq_true h; omega
                  have e5 : IntKind.i64.wrap (↑i + 1) = ((i + 1 : Nat) : Int) := by rw [i64w (by omega) (by omega)]; rfl
                  have hw : S.row[i / 4]? = some (S.row.getD (i / 4) 0) := by
                    rw [List.getD_eq_getElem?_getD, List.getElem?_eq_getElem (by rw [row_length]; omega)]; rfl
                  have og := outB_get S hi32
                  generalize S.row.getD (i / 4) 0 = w at *
                  have q0 : IntKind.i64.wrap ((i : Int).tdiv 4) = ((i / 4 : Nat) : Int) := by rw [show (4 : Int) = ((4 : Nat) : Int) from rfl, tdivN, i64w (by omega) (by omega)]
                  have q1 : (i : Int).tmod 4 = ((i % 4 : Nat) : Int) := tmodN i 4
                  have q2 : IntKind.i64.wrap (24 - IntKind.i64.wrap (8 * ((i % 4 : Nat) : Int))) = ((24 - 8 * (i % 4) : Nat) : Int) := by
                    rw [i64w (x := 8 * ((i % 4 : Nat) : Int)) (by omega) (by omega), i64w (by omega) (by omega)]; omega
                  have hg : ss[0 + ((i / 4 : Nat) : Int).toNat * Try.prog.types[32].size]? = some (.int .u32 (w.toNat : Int)) := by
                    rw [s32, Nat.mul_one, Int.toNat_natCast, Nat.zero_add]; exact fw_get hss hw
                  conv => whnf
                  repeat' (first
                    | ((with_reducible refine optm_of hg ?_); conv => whnf)
                    | rw [q0]
                    | rw [q1]
                    | rw [q2]
                    | ((with_reducible refine regx_of ?_ ?_); (· decide +kernel); conv => whnf)
                    | ((with_reducible refine growx_pre ?_ ?_); (· exact ⟨_, rfl⟩); conv => whnf)
                    | ((with_reducible refine needm_of ?_ ?_); (· first | assumption | exact decide_eq_true (by omega) | decide +kernel | (refine decide_eq_true ?_; simp (disch := omega) only [i64w]; omega)); conv => whnf)
                    | ((with_reducible refine condm_pos ?_ ?_); (· assumption); conv => whnf)
                    | ((with_reducible refine condm_neg ?_ ?_); (· assumption); conv => whnf)
                    | ((with_reducible refine forceL_fv (by assumption) ?_); conv => whnf)
                    | ((with_reducible refine forceL_rfv (by assumption) ?_); conv => whnf)
                    | ((with_reducible refine forceNm_of ?_); conv => whnf)
                    | ((with_reducible refine needm_of (fv_lenL (by assumption) (by assumption)) ?_); conv => whnf)
                    | ((with_reducible refine optm_var (fv_strL (by assumption) (by assumption)) (fun s hs => ?_)); conv => whnf)
                    | ((with_reducible refine forceA_of ?_); conv => whnf)
                    | ((with_reducible refine forceL_fw (by assumption) ?_); conv => whnf)
                    | ((with_reducible refine forceL_rfw (by assumption) ?_); conv => whnf)
                    | ((with_reducible refine forceL_fl (by assumption) ?_); conv => whnf)
                    | ((with_reducible refine forceL_rfl (by assumption) ?_); conv => whnf)
                    | fail)
                  rw [w_shr8 w (k := ((24 - 8 * (i % 4) : Nat) : Int)) (n := 24 - 8 * (i % 4)) (by rw [Int.toNat_natCast]; exact Nat.min_eq_left (by show 24 - 8 * (i % 4) ≤ 32; omega))]
                  refine needm_of (by rw [u8s_len hos, s5]; simp [hO]; omega) ?_
                  conv => whnf
                  repeat' (first
                    | ((with_reducible refine regx_of ?_ ?_); (· decide +kernel); conv => whnf)
                    | ((with_reducible refine growx_pre ?_ ?_); (· exact ⟨_, rfl⟩); conv => whnf)
                    | ((with_reducible refine needm_of ?_ ?_); (· first | assumption | exact decide_eq_true (by omega) | decide +kernel | (refine decide_eq_true ?_; simp (disch := omega) only [i64w]; omega)); conv => whnf)
                    | ((with_reducible refine condm_pos ?_ ?_); (· assumption); conv => whnf)
                    | ((with_reducible refine condm_neg ?_ ?_); (· assumption); conv => whnf)
                    | ((with_reducible refine forceL_fv (by assumption) ?_); conv => whnf)
                    | ((with_reducible refine forceL_rfv (by assumption) ?_); conv => whnf)
                    | ((with_reducible refine forceNm_of ?_); conv => whnf)
                    | ((with_reducible refine needm_of (fv_lenL (by assumption) (by assumption)) ?_); conv => whnf)
                    | ((with_reducible refine optm_var (fv_strL (by assumption) (by assumption)) (fun s hs => ?_)); conv => whnf)
                    | ((with_reducible refine forceA_of ?_); conv => whnf)
                    | ((with_reducible refine forceL_fw (by assumption) ?_); conv => whnf)
                    | ((with_reducible refine forceL_rfw (by assumption) ?_); conv => whnf)
                    | ((with_reducible refine forceL_fl (by assumption) ?_); conv => whnf)
                    | ((with_reducible refine forceL_rfl (by assumption) ?_); conv => whnf)
                    | fail)
                  refine forceL_var (fv_setN hos (n := i) (by rw [s5, Nat.zero_add, Nat.mul_one, Int.toNat_natCast])) (fun o1 ho1 => ?_)
                  conv => whnf
                  repeat' (first
                    | ((with_reducible refine regx_of ?_ ?_); (· decide +kernel); conv => whnf)
                    | ((with_reducible refine growx_pre ?_ ?_); (· exact ⟨_, rfl⟩); conv => whnf)
                    | ((with_reducible refine needm_of ?_ ?_); (· first | assumption | exact decide_eq_true (by omega) | decide +kernel | (refine decide_eq_true ?_; simp (disch := omega) only [i64w]; omega)); conv => whnf)
                    | ((with_reducible refine condm_pos ?_ ?_); (· assumption); conv => whnf)
                    | ((with_reducible refine condm_neg ?_ ?_); (· assumption); conv => whnf)
                    | ((with_reducible refine forceL_fv (by assumption) ?_); conv => whnf)
                    | ((with_reducible refine forceL_rfv (by assumption) ?_); conv => whnf)
                    | ((with_reducible refine forceNm_of ?_); conv => whnf)
                    | ((with_reducible refine needm_of (fv_lenL (by assumption) (by assumption)) ?_); conv => whnf)
                    | ((with_reducible refine optm_var (fv_strL (by assumption) (by assumption)) (fun s hs => ?_)); conv => whnf)
                    | ((with_reducible refine forceA_of ?_); conv => whnf)
                    | ((with_reducible refine forceL_fw (by assumption) ?_); conv => whnf)
                    | ((with_reducible refine forceL_rfw (by assumption) ?_); conv => whnf)
                    | ((with_reducible refine forceL_fl (by assumption) ?_); conv => whnf)
                    | ((with_reducible refine forceL_rfl (by assumption) ?_); conv => whnf)
                    | fail)
                  refine ⟨32 - (i + 1), by omega, Into.weak [0, 1, 2] _ _ ⟨i + 1, o1, _, by omega, rfl, ho1, by rw [List.length_set]; exact hO, ?_, rfl, rfl⟩ ⟨rfl, rfl, rfl, rfl, congrArg (fun z => some (V.a (.int .i64 z))) e5, trivial⟩ ⟨ren_fl hfl2 _ _ _, ren_fw hss _ _ _, ren_fv ho1 _ _ _, trivial⟩ ?_⟩
                  · intro j hj
                    rw [List.getElem?_set]
                    by_cases e : i = j
                    · subst e
                      rw [if_pos rfl, if_pos (by omega)]
                      exact og.symm
                    · rw [if_neg e]
                      exact hOj j (by omega)
                  · simp [nodupb, baseb, Ob.okb, frmOk, V.okb, A.okb, hfl2.all, all_fw hss, all_fv ho1] <;> decide
                · have h32 : i = 32 := by have := of_decide_eq_false h; omega
                  have hOe : O = digest l := by
                    rw [hdg]
                    apply List.ext_getElem?
                    intro j
                    by_cases hj : j < 32
                    · exact hOj j (by omega)
                    · rw [List.getElem?_eq_none (by omega), List.getElem?_eq_none (by rw [outB_length]; omega)]
                  rw [hOe] at hos
                  have hol : os.length = 32 := by rw [u8s_len hos, digest_length]
                  conv => whnf
                  repeat' (first
                    | ((with_reducible refine regx_of ?_ ?_); (· decide +kernel); conv => whnf)
                    | ((with_reducible refine growx_pre ?_ ?_); (· exact ⟨_, rfl⟩); conv => whnf)
                    | ((with_reducible refine needm_of ?_ ?_); (· first | assumption | exact decide_eq_true (by omega) | decide +kernel | (refine decide_eq_true ?_; simp (disch := omega) only [i64w]; omega)); conv => whnf)
                    | ((with_reducible refine condm_pos ?_ ?_); (· assumption); conv => whnf)
                    | ((with_reducible refine condm_neg ?_ ?_); (· assumption); conv => whnf)
                    | ((with_reducible refine forceL_fv (by assumption) ?_); conv => whnf)
                    | ((with_reducible refine forceL_rfv (by assumption) ?_); conv => whnf)
                    | ((with_reducible refine forceNm_of ?_); conv => whnf)
                    | ((with_reducible refine needm_of (fv_lenL (by assumption) (by assumption)) ?_); conv => whnf)
                    | ((with_reducible refine optm_var (fv_strL (by assumption) (by assumption)) (fun s hs => ?_)); conv => whnf)
                    | ((with_reducible refine forceA_of ?_); conv => whnf)
                    | ((with_reducible refine forceL_fw (by assumption) ?_); conv => whnf)
                    | ((with_reducible refine forceL_rfw (by assumption) ?_); conv => whnf)
                    | ((with_reducible refine forceL_fl (by assumption) ?_); conv => whnf)
                    | ((with_reducible refine forceL_rfl (by assumption) ?_); conv => whnf)
                    | ((with_reducible refine needm_of ?_ ?_); (· (rw [hol]; rfl)); conv => whnf)
                    | ((with_reducible refine forceL_to (whole_of ?_) ?_); (· rw [hol]; rfl); conv => whnf)
                    | fail)
                  refine Go.Eng.Fn.frame [] (by rfl) (by exact trivial) (by rfl) (of27 s l hl hbig (fun os2 hos2 => ?_))
                  obtain rfl : os2 = os := hos2.trans hos.symm
                  conv => whnf
                  repeat' (first
                    | ((with_reducible refine regx_of ?_ ?_); (· decide +kernel); conv => whnf)
                    | ((with_reducible refine growx_pre ?_ ?_); (· exact ⟨_, rfl⟩); conv => whnf)
                    | ((with_reducible refine needm_of ?_ ?_); (· first | assumption | exact decide_eq_true (by omega) | decide +kernel | (refine decide_eq_true ?_; simp (disch := omega) only [i64w]; omega)); conv => whnf)
                    | ((with_reducible refine condm_pos ?_ ?_); (· assumption); conv => whnf)
                    | ((with_reducible refine condm_neg ?_ ?_); (· assumption); conv => whnf)
                    | ((with_reducible refine forceL_fv (by assumption) ?_); conv => whnf)
                    | ((with_reducible refine forceL_rfv (by assumption) ?_); conv => whnf)
                    | ((with_reducible refine forceNm_of ?_); conv => whnf)
                    | ((with_reducible refine needm_of (fv_lenL (by assumption) (by assumption)) ?_); conv => whnf)
                    | ((with_reducible refine optm_var (fv_strL (by assumption) (by assumption)) (fun s hs => ?_)); conv => whnf)
                    | ((with_reducible refine forceA_of ?_); conv => whnf)
                    | ((with_reducible refine forceL_fw (by assumption) ?_); conv => whnf)
                    | ((with_reducible refine forceL_rfw (by assumption) ?_); conv => whnf)
                    | ((with_reducible refine forceL_fl (by assumption) ?_); conv => whnf)
                    | ((with_reducible refine forceL_rfl (by assumption) ?_); conv => whnf)
                    | ((with_reducible refine needm_of ?_ ?_); (· (rw [hol]; rfl)); conv => whnf)
                    | ((with_reducible refine forceL_to (whole_of ?_) ?_); (· rw [hol]; rfl); conv => whnf)
                    | (refine ⟨_, same41 hos (digest_length l), ?_⟩; conv => whnf)
                    | fail)
                  refine Go.Eng.Fn.frame [0] (by rfl) (by exact ⟨ren_fl hfl2 _ _ _, trivial⟩) (by simp [nodupb, V.okb, A.okb, Ob.okb, hfl2.all]) (sum33 l _ rfl h2 hh2 (fun os3 hos3 => ?_))
                  obtain rfl : os3 = os2 := hos3.trans hos.symm
                  conv => whnf
                  refine growx_pre ⟨[], by rw [List.append_nil]; exact (plug_one rfl (ren_fb hfl2 _ _ _)).symm⟩ ?_
                  conv => whnf
                  repeat' (first
                    | ((with_reducible refine regx_of ?_ ?_); (· decide +kernel); conv => whnf)
                    | ((with_reducible refine growx_pre ?_ ?_); (· exact ⟨_, rfl⟩); conv => whnf)
                    | ((with_reducible refine needm_of ?_ ?_); (· first | assumption | exact decide_eq_true (by omega) | decide +kernel | (refine decide_eq_true ?_; simp (disch := omega) only [i64w]; omega)); conv => whnf)
                    | ((with_reducible refine condm_pos ?_ ?_); (· assumption); conv => whnf)
                    | ((with_reducible refine condm_neg ?_ ?_); (· assumption); conv => whnf)
                    | ((with_reducible refine forceL_fv (by assumption) ?_); conv => whnf)
                    | ((with_reducible refine forceL_rfv (by assumption) ?_); conv => whnf)
                    | ((with_reducible refine forceNm_of ?_); conv => whnf)
                    | ((with_reducible refine needm_of (fv_lenL (by assumption) (by assumption)) ?_); conv => whnf)
                    | ((with_reducible refine optm_var (fv_strL (by assumption) (by assumption)) (fun s hs => ?_)); conv => whnf)
                    | ((with_reducible refine forceA_of ?_); conv => whnf)
                    | ((with_reducible refine forceL_fw (by assumption) ?_); conv => whnf)
                    | ((with_reducible refine forceL_rfw (by assumption) ?_); conv => whnf)
                    | ((with_reducible refine forceL_fl (by assumption) ?_); conv => whnf)
                    | ((with_reducible refine forceL_rfl (by assumption) ?_); conv => whnf)
                    | ((with_reducible refine needm_of ?_ ?_); (· (rw [hol]; rfl)); conv => whnf)
                    | ((with_reducible refine forceL_to (whole_of ?_) ?_); (· rw [hol]; rfl); conv => whnf)
                    | (refine ⟨_, same41 hos (digest_length l), ?_⟩; conv => whnf)
                    | fail)
                  refine Go.Eng.Fn.frame [0] (by rfl) (by exact ⟨ren_fl hfl2 _ _ _, trivial⟩) (by simp [nodupb, V.okb, A.okb, Ob.okb, hfl2.all]) (len36 l _ h2 hh2 ?_)
                  conv => whnf
                  refine growx_pre ⟨[], by rw [List.append_nil]; exact (plug_one rfl (ren_fb hfl2 _ _ _)).symm⟩ ?_
                  conv => whnf
                  have c9 : (((l.length % 18446744073709551616 : Nat) : Int) == IntKind.u64.wrap (s.size : Int)) = true := by rw [hsz, u64w]; simp
                  rw [hsz] at c9
                  repeat' (first
                    | rw [hsz]
                    | ((with_reducible refine regx_of ?_ ?_); (· decide +kernel); conv => whnf)
                    | ((with_reducible refine growx_pre ?_ ?_); (· exact ⟨_, rfl⟩); conv => whnf)
                    | ((with_reducible refine needm_of ?_ ?_); (· first | assumption | exact decide_eq_true (by omega) | decide +kernel | (refine decide_eq_true ?_; simp (disch := omega) only [i64w]; omega)); conv => whnf)
                    | ((with_reducible refine condm_pos ?_ ?_); (· assumption); conv => whnf)
                    | ((with_reducible refine condm_neg ?_ ?_); (· assumption); conv => whnf)
                    | ((with_reducible refine forceL_fv (by assumption) ?_); conv => whnf)
                    | ((with_reducible refine forceL_rfv (by assumption) ?_); conv => whnf)
                    | ((with_reducible refine forceNm_of ?_); conv => whnf)
                    | ((with_reducible refine needm_of (fv_lenL (by assumption) (by assumption)) ?_); conv => whnf)
                    | ((with_reducible refine optm_var (fv_strL (by assumption) (by assumption)) (fun s hs => ?_)); conv => whnf)
                    | ((with_reducible refine forceA_of ?_); conv => whnf)
                    | ((with_reducible refine forceL_fw (by assumption) ?_); conv => whnf)
                    | ((with_reducible refine forceL_rfw (by assumption) ?_); conv => whnf)
                    | ((with_reducible refine forceL_fl (by assumption) ?_); conv => whnf)
                    | ((with_reducible refine forceL_rfl (by assumption) ?_); conv => whnf)
                    | fail)
                  exact congrArg (fun b => V.a (A.bool b)) c9
        · have hc' := of_decide_eq_false hc
          refine needm_of (decide_eq_true (by rw [s5, u8s_len hc1, List.length_append]; exact ⟨by omega, by show (_ : Nat) * 1 ≤ _; omega, by omega⟩)) ?_
          intro cap' hcap'
          conv => whnf
          repeat' (first
            | ((with_reducible refine regx_of ?_ ?_); (· decide +kernel); conv => whnf)
            | ((with_reducible refine growx_pre ?_ ?_); (· exact ⟨_, rfl⟩); conv => whnf)
            | ((with_reducible refine needm_of ?_ ?_); (· first | assumption | exact decide_eq_true (by omega) | decide +kernel | (refine decide_eq_true ?_; simp (disch := omega) only [i64w]; omega)); conv => whnf)
            | ((with_reducible refine condm_pos ?_ ?_); (· assumption); conv => whnf)
            | ((with_reducible refine condm_neg ?_ ?_); (· assumption); conv => whnf)
            | ((with_reducible refine forceL_fv (by assumption) ?_); conv => whnf)
            | ((with_reducible refine forceL_rfv (by assumption) ?_); conv => whnf)
            | ((with_reducible refine forceNm_of ?_); conv => whnf)
            | ((with_reducible refine needm_of (fv_lenL (by assumption) (by assumption)) ?_); conv => whnf)
            | ((with_reducible refine optm_var (fv_strL (by assumption) (by assumption)) (fun s hs => ?_)); conv => whnf)
            | ((with_reducible refine forceA_of ?_); conv => whnf)
            | ((with_reducible refine forceL_fw (by assumption) ?_); conv => whnf)
            | ((with_reducible refine forceL_rfw (by assumption) ?_); conv => whnf)
            | ((with_reducible refine forceL_fl (by assumption) ?_); conv => whnf)
            | ((with_reducible refine forceL_rfl (by assumption) ?_); conv => whnf)
            | fail)
          refine forceL_var (l' := u8s (padded l ++ List.replicate (cap' - (l.length + flen)) 0)) ?_ (fun cs2 hcs2 => ?_)
          · rw [hc1, s5, Nat.zero_add, Nat.mul_one, List.drop_zero, u8s_take, List.take_left' rfl, Nat.mul_one, repl_u8, ← u8s_append, ← u8s_append, hpd]
          generalize hbl : l.length + flen = bl at *
          have d1 : ((bl : Int).tmod 64 != 0) = false := by
            rw [show (64 : Int) = ((64 : Nat) : Int) from rfl, tmodN, show bl % 64 = 0 by omega]
            rfl
          have d2 : decide ((bl : Int) < IntKind.i64.wrap ((s.size : Int) + 9)) = false := by
            rw [hsz, i64w (by omega) (by omega)]
            exact decide_eq_false (by omega)
          have d3 : decide ((bl : Int) > IntKind.i64.wrap ((s.size : Int) + 72)) = false := by
            rw [hsz, i64w (by omega) (by omega)]
            exact decide_eq_false (by omega)
          rw [hsz] at d2 d3
          conv => whnf
          repeat' (first
            | rw [hsz]
            | ((with_reducible refine regx_of ?_ ?_); (· decide +kernel); conv => whnf)
            | ((with_reducible refine growx_pre ?_ ?_); (· exact ⟨_, rfl⟩); conv => whnf)
            | ((with_reducible refine needm_of ?_ ?_); (· first | assumption | exact decide_eq_true (by omega) | decide +kernel | (refine decide_eq_true ?_; simp (disch := omega) only [i64w]; omega)); conv => whnf)
            | ((with_reducible refine condm_pos ?_ ?_); (· assumption); conv => whnf)
            | ((with_reducible refine condm_neg ?_ ?_); (· assumption); conv => whnf)
            | ((with_reducible refine forceL_fv (by assumption) ?_); conv => whnf)
            | ((with_reducible refine forceL_rfv (by assumption) ?_); conv => whnf)
            | ((with_reducible refine forceNm_of ?_); conv => whnf)
            | ((with_reducible refine needm_of (fv_lenL (by assumption) (by assumption)) ?_); conv => whnf)
            | ((with_reducible refine optm_var (fv_strL (by assumption) (by assumption)) (fun s hs => ?_)); conv => whnf)
            | ((with_reducible refine forceA_of ?_); conv => whnf)
            | ((with_reducible refine forceL_fw (by assumption) ?_); conv => whnf)
            | ((with_reducible refine forceL_rfw (by assumption) ?_); conv => whnf)
            | ((with_reducible refine forceL_fl (by assumption) ?_); conv => whnf)
            | ((with_reducible refine forceL_rfl (by assumption) ?_); conv => whnf)
            | fail)
          refine Go.Eng.Fn.frame [] (by rfl) (by exact trivial) (by rfl) (start23 (fun ks hks => ?_))
          have hks' : ks = u32s s0.row := by rw [hks]; unfold u32s; rfl
          clear hks
          have hkl : ks.length = 8 := by rw [fw_len hks']; rfl
          conv => whnf
          repeat' (first
            | rw [← hz8]
            | ((with_reducible refine regx_of ?_ ?_); (· decide +kernel); conv => whnf)
            | ((with_reducible refine growx_pre ?_ ?_); (· exact ⟨_, rfl⟩); conv => whnf)
            | ((with_reducible refine needm_of ?_ ?_); (· first | assumption | exact decide_eq_true (by omega) | decide +kernel | (refine decide_eq_true ?_; simp (disch := omega) only [i64w]; omega)); conv => whnf)
            | ((with_reducible refine condm_pos ?_ ?_); (· assumption); conv => whnf)
            | ((with_reducible refine condm_neg ?_ ?_); (· assumption); conv => whnf)
            | ((with_reducible refine forceL_fv (by assumption) ?_); conv => whnf)
            | ((with_reducible refine forceL_rfv (by assumption) ?_); conv => whnf)
            | ((with_reducible refine forceNm_of ?_); conv => whnf)
            | ((with_reducible refine needm_of (fv_lenL (by assumption) (by assumption)) ?_); conv => whnf)
            | ((with_reducible refine optm_var (fv_strL (by assumption) (by assumption)) (fun s hs => ?_)); conv => whnf)
            | ((with_reducible refine forceA_of ?_); conv => whnf)
            | ((with_reducible refine forceL_fw (by assumption) ?_); conv => whnf)
            | ((with_reducible refine forceL_rfw (by assumption) ?_); conv => whnf)
            | ((with_reducible refine forceL_fl (by assumption) ?_); conv => whnf)
            | ((with_reducible refine forceL_rfl (by assumption) ?_); conv => whnf)
            | fail)
          refine needm_of (by rw [hkl, h8l]; rfl) ?_
          conv => whnf
          repeat' (first
            | ((with_reducible refine regx_of ?_ ?_); (· decide +kernel); conv => whnf)
            | ((with_reducible refine growx_pre ?_ ?_); (· exact ⟨_, rfl⟩); conv => whnf)
            | ((with_reducible refine needm_of ?_ ?_); (· first | assumption | exact decide_eq_true (by omega) | decide +kernel | (refine decide_eq_true ?_; simp (disch := omega) only [i64w]; omega)); conv => whnf)
            | ((with_reducible refine condm_pos ?_ ?_); (· assumption); conv => whnf)
            | ((with_reducible refine condm_neg ?_ ?_); (· assumption); conv => whnf)
            | ((with_reducible refine forceL_fv (by assumption) ?_); conv => whnf)
            | ((with_reducible refine forceL_rfv (by assumption) ?_); conv => whnf)
            | ((with_reducible refine forceNm_of ?_); conv => whnf)
            | ((with_reducible refine needm_of (fv_lenL (by assumption) (by assumption)) ?_); conv => whnf)
            | ((with_reducible refine optm_var (fv_strL (by assumption) (by assumption)) (fun s hs => ?_)); conv => whnf)
            | ((with_reducible refine forceA_of ?_); conv => whnf)
            | ((with_reducible refine forceL_fw (by assumption) ?_); conv => whnf)
            | ((with_reducible refine forceL_rfw (by assumption) ?_); conv => whnf)
            | ((with_reducible refine forceL_fl (by assumption) ?_); conv => whnf)
            | ((with_reducible refine forceL_rfl (by assumption) ?_); conv => whnf)
            | fail)
          refine forceL_to (store_all (by rw [hkl, h8l])) ?_
          conv => whnf
          repeat' (first
            | ((with_reducible refine regx_of ?_ ?_); (· decide +kernel); conv => whnf)
            | ((with_reducible refine growx_pre ?_ ?_); (· exact ⟨_, rfl⟩); conv => whnf)
            | ((with_reducible refine needm_of ?_ ?_); (· first | assumption | exact decide_eq_true (by omega) | decide +kernel | (refine decide_eq_true ?_; simp (disch := omega) only [i64w]; omega)); conv => whnf)
            | ((with_reducible refine condm_pos ?_ ?_); (· assumption); conv => whnf)
            | ((with_reducible refine condm_neg ?_ ?_); (· assumption); conv => whnf)
            | ((with_reducible refine forceL_fv (by assumption) ?_); conv => whnf)
            | ((with_reducible refine forceL_rfv (by assumption) ?_); conv => whnf)
            | ((with_reducible refine forceNm_of ?_); conv => whnf)
            | ((with_reducible refine needm_of (fv_lenL (by assumption) (by assumption)) ?_); conv => whnf)
            | ((with_reducible refine optm_var (fv_strL (by assumption) (by assumption)) (fun s hs => ?_)); conv => whnf)
            | ((with_reducible refine forceA_of ?_); conv => whnf)
            | ((with_reducible refine forceL_fw (by assumption) ?_); conv => whnf)
            | ((with_reducible refine forceL_rfw (by assumption) ?_); conv => whnf)
            | ((with_reducible refine forceL_fl (by assumption) ?_); conv => whnf)
            | ((with_reducible refine forceL_rfl (by assumption) ?_); conv => whnf)
            | fail)
          have hdg : digest l = outB (blk kB (padded l)) := by unfold digest; rw [hkB, Nat.mul_div_cancel_left _ (by decide)]
          generalize hPd : padded l = Pd at *
          refine loopx_of (fun m F H => ∃ (k : Nat) (ss : List A), k ≤ kB ∧ m = kB - k ∧ ss = u32s (blk k Pd).row ∧ F = [(0, .a (.str s)), (5, .a (.ptr 0 0)), (9, .a (.slc 1 0 bl cap')), (10, .a (.ptr 2 0)), (11, .a (.int .i64 (64 * k : Nat)))] ∧ H = [.cells h2 68 false, .cells cs2 5 false, .cells ss 33 false]) kB ?_ ?_
          · refine Into.weak [0, 3, 4] _ _ ⟨0, ks, by omega, rfl, by rw [blk_0]; exact hks', rfl, rfl⟩ ⟨rfl, rfl, rfl, rfl, rfl, trivial⟩ ⟨ren_fl hfl2 _ _ _, ren_fv hcs2 _ _ _, ren_fw hks' _ _ _, trivial⟩ ?_
            simp [nodupb, baseb, Ob.okb, frmOk, V.okb, A.okb, hfl2.all, all_fv hcs2, all_fw hks'] <;> decide
          · clear hks' hkl ks
            rintro m F H ⟨k, ss, hk, rfl, hss, rfl, rfl⟩
            have hsl : ss.length = 8 := by rw [fw_len hss]; rfl
            conv => whnf
            refine condm_of (fun h => ?_) (fun h => ?_)
            · have hkk : k < kB := by have := of_decide_eq_true h; omega
              have e4 : IntKind.i64.wrap (((64 * k : Nat) : Int) + 64) = ((64 * (k + 1) : Nat) : Int) := by rw [i64w (by omega) (by omega)]; omega
              have hbs := blk_succ k Pd
              conv => whnf
              repeat' (first
                | rw [← hz8]
                | rw [e4]
                | ((with_reducible refine regx_of ?_ ?_); (· decide +kernel); conv => whnf)
                | ((with_reducible refine growx_pre ?_ ?_); (· exact ⟨_, rfl⟩); conv => whnf)
                | ((with_reducible refine needm_of ?_ ?_); (· first | assumption | exact decide_eq_true (by omega) | decide +kernel | (refine decide_eq_true ?_; simp (disch := omega) only [i64w]; omega)); conv => whnf)
                | ((with_reducible refine condm_pos ?_ ?_); (· assumption); conv => whnf)
                | ((with_reducible refine condm_neg ?_ ?_); (· assumption); conv => whnf)
                | ((with_reducible refine forceL_fv (by assumption) ?_); conv => whnf)
                | ((with_reducible refine forceL_rfv (by assumption) ?_); conv => whnf)
                | ((with_reducible refine forceNm_of ?_); conv => whnf)
                | ((with_reducible refine needm_of (fv_lenL (by assumption) (by assumption)) ?_); conv => whnf)
                | ((with_reducible refine optm_var (fv_strL (by assumption) (by assumption)) (fun s hs => ?_)); conv => whnf)
                | ((with_reducible refine forceA_of ?_); conv => whnf)
                | ((with_reducible refine forceL_fw (by assumption) ?_); conv => whnf)
                | ((with_reducible refine forceL_rfw (by assumption) ?_); conv => whnf)
                | ((with_reducible refine forceL_fl (by assumption) ?_); conv => whnf)
                | ((with_reducible refine forceL_rfl (by assumption) ?_); conv => whnf)
                | fail)
              refine needm_of (by rw [hsl]; rfl) ?_
              conv => whnf
              refine forceL_to (whole_of (by rw [hsl]; rfl)) ?_
              conv => whnf
              have es : (if cap' = (((64 * k : Nat) : Int)).toNat then 0 else 0 + (((64 * k : Nat) : Int)).toNat * Try.prog.types[5].size) = 64 * k := by
                rw [Int.toNat_natCast, if_neg (by omega), s5]; omega
              have el : (((64 * (k + 1) : Nat) : Int)).toNat - (((64 * k : Nat) : Int)).toNat = 64 := by
                rw [Int.toNat_natCast, Int.toNat_natCast]; omega
              repeat' (first
                | rw [← hz8]
                | rw [e4]
                | rw [es]
                | rw [el]
                | ((with_reducible refine regx_of ?_ ?_); (· decide +kernel); conv => whnf)
                | ((with_reducible refine growx_pre ?_ ?_); (· exact ⟨_, rfl⟩); conv => whnf)
                | ((with_reducible refine needm_of ?_ ?_); (· first | assumption | exact decide_eq_true (by omega) | decide +kernel | (refine decide_eq_true ?_; simp (disch := omega) only [i64w]; omega)); conv => whnf)
                | ((with_reducible refine condm_pos ?_ ?_); (· assumption); conv => whnf)
                | ((with_reducible refine condm_neg ?_ ?_); (· assumption); conv => whnf)
                | ((with_reducible refine forceL_fv (by assumption) ?_); conv => whnf)
                | ((with_reducible refine forceL_rfv (by assumption) ?_); conv => whnf)
                | ((with_reducible refine forceNm_of ?_); conv => whnf)
                | ((with_reducible refine needm_of (fv_lenL (by assumption) (by assumption)) ?_); conv => whnf)
                | ((with_reducible refine optm_var (fv_strL (by assumption) (by assumption)) (fun s hs => ?_)); conv => whnf)
                | ((with_reducible refine forceA_of ?_); conv => whnf)
                | ((with_reducible refine forceL_fw (by assumption) ?_); conv => whnf)
                | ((with_reducible refine forceL_rfw (by assumption) ?_); conv => whnf)
                | ((with_reducible refine forceL_fl (by assumption) ?_); conv => whnf)
                | ((with_reducible refine forceL_rfl (by assumption) ?_); conv => whnf)
                | ((with_reducible refine And.intro ?_ ?_) <;> (conv => whnf))
                | ((refine Go.Eng.Fn.frame [1] (by simp [V.ren, (Flat.u32 hss).ren, A.ren, dsOf]) (by exact ⟨ren_fv hcs2 _ _ _, trivial⟩) (by simp [nodupb, V.okb, A.okb, Ob.okb, all_fv hcs2, (Flat.u32 hss).all]) (block21o (blk k Pd) ss hss cs2 _ ((Pd.drop (64 * k)).take 64) (64 * k) (cap' - (((64 * k : Nat) : Int)).toNat) hcs2 (by rw [List.length_append]; omega) (by rw [List.drop_append_of_le_length (by omega), List.take_append_of_le_length (by rw [List.length_drop]; omega)]) (fun rs hrs => ?_))); rw [← hbs] at hrs; (have hrl : rs.length = 8 := by rw [fw_len hrs]; rfl); conv => whnf)
                | ((refine growx_pre ⟨[], by rw [List.append_nil]; exact (plug_one rfl (ren_fb (Flat.u8 hcs2) _ _ _)).symm⟩ ?_); conv => whnf)
                | ((with_reducible refine needm_of ?_ ?_); (· first | (rw [hrl, h8l]; rfl) | (rw [hrl, hsl]; rfl) | (rw [hrl]; rfl)); conv => whnf)
                | ((with_reducible refine forceL_to (whole_of ?_) ?_); (· rw [hrl]; rfl); conv => whnf)
                | ((with_reducible refine forceL_to (store_all ?_) ?_); (· first | rw [hrl, h8l] | rw [hrl, hsl]); conv => whnf)
                | fail)
              all_goals first
                | (refine ⟨kB - (k + 1), by omega, Into.weak [0, 1, 2] _ _ ⟨k + 1, rs, by omega, rfl, hrs, rfl, rfl⟩ ⟨rfl, rfl, rfl, rfl, rfl, trivial⟩ ⟨ren_fl hfl2 _ _ _, ren_fv hcs2 _ _ _, ren_fw hrs _ _ _, trivial⟩ ?_⟩; simp [nodupb, baseb, Ob.okb, frmOk, V.okb, A.okb, hfl2.all, all_fv hcs2, all_fw hrs] <;> decide)
                | exact ⟨[], by rw [List.append_nil]; exact (plug_one rfl (ren_fb (Flat.u8 hcs2) _ _ _)).symm⟩
            · have hkk : k = kB := by have := of_decide_eq_false h; omega
              rw [hkk] at hss
              generalize blk kB Pd = S at *
              conv => whnf
              repeat' (first
                | rw [← hz32]
                | ((with_reducible refine regx_of ?_ ?_); (· decide +kernel); conv => whnf)
                | ((with_reducible refine growx_pre ?_ ?_); (· exact ⟨_, rfl⟩); conv => whnf)
                | ((with_reducible refine needm_of ?_ ?_); (· first | assumption | exact decide_eq_true (by omega) | decide +kernel | (refine decide_eq_true ?_; simp (disch := omega) only [i64w]; omega)); conv => whnf)
                | ((with_reducible refine condm_pos ?_ ?_); (· assumption); conv => whnf)
                | ((with_reducible refine condm_neg ?_ ?_); (· assumption); conv => whnf)
                | ((with_reducible refine forceL_fv (by assumption) ?_); conv => whnf)
                | ((with_reducible refine forceL_rfv (by assumption) ?_); conv => whnf)
                | ((with_reducible refine forceNm_of ?_); conv => whnf)
                | ((with_reducible refine needm_of (fv_lenL (by assumption) (by assumption)) ?_); conv => whnf)
                | ((with_reducible refine optm_var (fv_strL (by assumption) (by assumption)) (fun s hs => ?_)); conv => whnf)
                | ((with_reducible refine forceA_of ?_); conv => whnf)
                | ((with_reducible refine forceL_fw (by assumption) ?_); conv => whnf)
                | ((with_reducible refine forceL_rfw (by assumption) ?_); conv => whnf)
                | ((with_reducible refine forceL_fl (by assumption) ?_); conv => whnf)
                | ((with_reducible refine forceL_rfl (by assumption) ?_); conv => whnf)
                | fail)
              refine loopx_of (fun m F H => ∃ (i : Nat) (os : List A) (O : List UInt8), i ≤ 32 ∧ m = 32 - i ∧ os = u8s O ∧ O.length = 32 ∧ (∀ j, j < i → O[j]? = (outB S)[j]?) ∧ F = [(0, .a (.str s)), (5, .a (.ptr 0 0)), (10, .a (.ptr 1 0)), (14, .a (.ptr 2 0)), (15, .a (.int .i64 i))] ∧ H = [.cells h2 68 false, .cells ss 33 false, .cells os 41 false]) 32 ?_ ?_
              · refine Into.weak [0, 2, 3] _ _ ⟨0, z32, _, by omega, rfl, hz, by simp, fun j hj => by omega, rfl, rfl⟩ ⟨rfl, rfl, rfl, rfl, rfl, trivial⟩ ⟨ren_fl hfl2 _ _ _, ren_fw hss _ _ _, ren_fv hz _ _ _, trivial⟩ ?_
                simp [nodupb, baseb, Ob.okb, frmOk, V.okb, A.okb, hfl2.all, all_fv hz, all_fw hss] <;> decide
              · rintro m F H ⟨i, os, O, hi, rfl, hos, hO, hOj, rfl, rfl⟩
                conv => whnf
                refine condm_of (fun h => ?_) (fun h => ?_)
                · have hi32 : i < 32 := by have := of_decide_eq_true h; omega
                  have e5 : IntKind.i64.wrap (↑i + 1) = ((i + 1 : Nat) : Int) := by rw [i64w (by omega) (by omega)]; rfl
                  have hw : S.row[i / 4]? = some (S.row.getD (i / 4) 0) := by
                    rw [List.getD_eq_getElem?_getD, List.getElem?_eq_getElem (by rw [row_length]; omega)]; rfl
                  have og := outB_get S hi32
                  generalize S.row.getD (i / 4) 0 = w at *
                  have q0 : IntKind.i64.wrap ((i : Int).tdiv 4) = ((i / 4 : Nat) : Int) := by rw [show (4 : Int) = ((4 : Nat) : Int) from rfl, tdivN, i64w (by omega) (by omega)]
                  have q1 : (i : Int).tmod 4 = ((i % 4 : Nat) : Int) := tmodN i 4
                  have q2 : IntKind.i64.wrap (24 - IntKind.i64.wrap (8 * ((i % 4 : Nat) : Int))) = ((24 - 8 * (i % 4) : Nat) : Int) := by
                    rw [i64w (x := 8 * ((i % 4 : Nat) : Int)) (by omega) (by omega), i64w (by omega) (by omega)]; omega
                  have hg : ss[0 + ((i / 4 : Nat) : Int).toNat * Try.prog.types[32].size]? = some (.int .u32 (w.toNat : Int)) := by
                    rw [s32, Nat.mul_one, Int.toNat_natCast, Nat.zero_add]; exact fw_get hss hw
                  conv => whnf
                  repeat' (first
                    | ((with_reducible refine optm_of hg ?_); conv => whnf)
                    | rw [q0]
                    | rw [q1]
                    | rw [q2]
                    | ((with_reducible refine regx_of ?_ ?_); (· decide +kernel); conv => whnf)
                    | ((with_reducible refine growx_pre ?_ ?_); (· exact ⟨_, rfl⟩); conv => whnf)
                    | ((with_reducible refine needm_of ?_ ?_); (· first | assumption | exact decide_eq_true (by omega) | decide +kernel | (refine decide_eq_true ?_; simp (disch := omega) only [i64w]; omega)); conv => whnf)
                    | ((with_reducible refine condm_pos ?_ ?_); (· assumption); conv => whnf)
                    | ((with_reducible refine condm_neg ?_ ?_); (· assumption); conv => whnf)
                    | ((with_reducible refine forceL_fv (by assumption) ?_); conv => whnf)
                    | ((with_reducible refine forceL_rfv (by assumption) ?_); conv => whnf)
                    | ((with_reducible refine forceNm_of ?_); conv => whnf)
                    | ((with_reducible refine needm_of (fv_lenL (by assumption) (by assumption)) ?_); conv => whnf)
                    | ((with_reducible refine optm_var (fv_strL (by assumption) (by assumption)) (fun s hs => ?_)); conv => whnf)
                    | ((with_reducible refine forceA_of ?_); conv => whnf)
                    | ((with_reducible refine forceL_fw (by assumption) ?_); conv => whnf)
                    | ((with_reducible refine forceL_rfw (by assumption) ?_); conv => whnf)
                    | ((with_reducible refine forceL_fl (by assumption) ?_); conv => whnf)
                    | ((with_reducible refine forceL_rfl (by assumption) ?_); conv => whnf)
                    | fail)
                  rw [w_shr8 w (k := ((24 - 8 * (i % 4) : Nat) : Int)) (n := 24 - 8 * (i % 4)) (by rw [Int.toNat_natCast]; exact Nat.min_eq_left (by show 24 - 8 * (i % 4) ≤ 32; omega))]
                  refine needm_of (by rw [u8s_len hos, s5]; simp [hO]; omega) ?_
                  conv => whnf
                  repeat' (first
                    | ((with_reducible refine regx_of ?_ ?_); (· decide +kernel); conv => whnf)
                    | ((with_reducible refine growx_pre ?_ ?_); (· exact ⟨_, rfl⟩); conv => whnf)
                    | ((with_reducible refine needm_of ?_ ?_); (· first | assumption | exact decide_eq_true (by omega) | decide +kernel | (refine decide_eq_true ?_; simp (disch := omega) only [i64w]; omega)); conv => whnf)
                    | ((with_reducible refine condm_pos ?_ ?_); (· assumption); conv => whnf)
                    | ((with_reducible refine condm_neg ?_ ?_); (· assumption); conv => whnf)
                    | ((with_reducible refine forceL_fv (by assumption) ?_); conv => whnf)
                    | ((with_reducible refine forceL_rfv (by assumption) ?_); conv => whnf)
                    | ((with_reducible refine forceNm_of ?_); conv => whnf)
                    | ((with_reducible refine needm_of (fv_lenL (by assumption) (by assumption)) ?_); conv => whnf)
                    | ((with_reducible refine optm_var (fv_strL (by assumption) (by assumption)) (fun s hs => ?_)); conv => whnf)
                    | ((with_reducible refine forceA_of ?_); conv => whnf)
                    | ((with_reducible refine forceL_fw (by assumption) ?_); conv => whnf)
                    | ((with_reducible refine forceL_rfw (by assumption) ?_); conv => whnf)
                    | ((with_reducible refine forceL_fl (by assumption) ?_); conv => whnf)
                    | ((with_reducible refine forceL_rfl (by assumption) ?_); conv => whnf)
                    | fail)
                  refine forceL_var (fv_setN hos (n := i) (by rw [s5, Nat.zero_add, Nat.mul_one, Int.toNat_natCast])) (fun o1 ho1 => ?_)
                  conv => whnf
                  repeat' (first
                    | ((with_reducible refine regx_of ?_ ?_); (· decide +kernel); conv => whnf)
                    | ((with_reducible refine growx_pre ?_ ?_); (· exact ⟨_, rfl⟩); conv => whnf)
                    | ((with_reducible refine needm_of ?_ ?_); (· first | assumption | exact decide_eq_true (by omega) | decide +kernel | (refine decide_eq_true ?_; simp (disch := omega) only [i64w]; omega)); conv => whnf)
                    | ((with_reducible refine condm_pos ?_ ?_); (· assumption); conv => whnf)
                    | ((with_reducible refine condm_neg ?_ ?_); (· assumption); conv => whnf)
                    | ((with_reducible refine forceL_fv (by assumption) ?_); conv => whnf)
                    | ((with_reducible refine forceL_rfv (by assumption) ?_); conv => whnf)
                    | ((with_reducible refine forceNm_of ?_); conv => whnf)
                    | ((with_reducible refine needm_of (fv_lenL (by assumption) (by assumption)) ?_); conv => whnf)
                    | ((with_reducible refine optm_var (fv_strL (by assumption) (by assumption)) (fun s hs => ?_)); conv => whnf)
                    | ((with_reducible refine forceA_of ?_); conv => whnf)
                    | ((with_reducible refine forceL_fw (by assumption) ?_); conv => whnf)
                    | ((with_reducible refine forceL_rfw (by assumption) ?_); conv => whnf)
                    | ((with_reducible refine forceL_fl (by assumption) ?_); conv => whnf)
                    | ((with_reducible refine forceL_rfl (by assumption) ?_); conv => whnf)
                    | fail)
                  refine ⟨32 - (i + 1), by omega, Into.weak [0, 1, 2] _ _ ⟨i + 1, o1, _, by omega, rfl, ho1, by rw [List.length_set]; exact hO, ?_, rfl, rfl⟩ ⟨rfl, rfl, rfl, rfl, congrArg (fun z => some (V.a (.int .i64 z))) e5, trivial⟩ ⟨ren_fl hfl2 _ _ _, ren_fw hss _ _ _, ren_fv ho1 _ _ _, trivial⟩ ?_⟩
                  · intro j hj
                    rw [List.getElem?_set]
                    by_cases e : i = j
                    · subst e
                      rw [if_pos rfl, if_pos (by omega)]
                      exact og.symm
                    · rw [if_neg e]
                      exact hOj j (by omega)
                  · simp [nodupb, baseb, Ob.okb, frmOk, V.okb, A.okb, hfl2.all, all_fw hss, all_fv ho1] <;> decide
                · have h32 : i = 32 := by have := of_decide_eq_false h; omega
                  have hOe : O = digest l := by
                    rw [hdg]
                    apply List.ext_getElem?
                    intro j
                    by_cases hj : j < 32
                    · exact hOj j (by omega)
                    · rw [List.getElem?_eq_none (by omega), List.getElem?_eq_none (by rw [outB_length]; omega)]
                  rw [hOe] at hos
                  have hol : os.length = 32 := by rw [u8s_len hos, digest_length]
                  conv => whnf
                  repeat' (first
                    | ((with_reducible refine regx_of ?_ ?_); (· decide +kernel); conv => whnf)
                    | ((with_reducible refine growx_pre ?_ ?_); (· exact ⟨_, rfl⟩); conv => whnf)
                    | ((with_reducible refine needm_of ?_ ?_); (· first | assumption | exact decide_eq_true (by omega) | decide +kernel | (refine decide_eq_true ?_; simp (disch := omega) only [i64w]; omega)); conv => whnf)
                    | ((with_reducible refine condm_pos ?_ ?_); (· assumption); conv => whnf)
                    | ((with_reducible refine condm_neg ?_ ?_); (· assumption); conv => whnf)
                    | ((with_reducible refine forceL_fv (by assumption) ?_); conv => whnf)
                    | ((with_reducible refine forceL_rfv (by assumption) ?_); conv => whnf)
                    | ((with_reducible refine forceNm_of ?_); conv => whnf)
                    | ((with_reducible refine needm_of (fv_lenL (by assumption) (by assumption)) ?_); conv => whnf)
                    | ((with_reducible refine optm_var (fv_strL (by assumption) (by assumption)) (fun s hs => ?_)); conv => whnf)
                    | ((with_reducible refine forceA_of ?_); conv => whnf)
                    | ((with_reducible refine forceL_fw (by assumption) ?_); conv => whnf)
                    | ((with_reducible refine forceL_rfw (by assumption) ?_); conv => whnf)
                    | ((with_reducible refine forceL_fl (by assumption) ?_); conv => whnf)
                    | ((with_reducible refine forceL_rfl (by assumption) ?_); conv => whnf)
                    | ((with_reducible refine needm_of ?_ ?_); (· (rw [hol]; rfl)); conv => whnf)
                    | ((with_reducible refine forceL_to (whole_of ?_) ?_); (· rw [hol]; rfl); conv => whnf)
                    | fail)
                  refine Go.Eng.Fn.frame [] (by rfl) (by exact trivial) (by rfl) (of27 s l hl hbig (fun os2 hos2 => ?_))
                  obtain rfl : os2 = os := hos2.trans hos.symm
                  conv => whnf
                  repeat' (first
                    | ((with_reducible refine regx_of ?_ ?_); (· decide +kernel); conv => whnf)
                    | ((with_reducible refine growx_pre ?_ ?_); (· exact ⟨_, rfl⟩); conv => whnf)
                    | ((with_reducible refine needm_of ?_ ?_); (· first | assumption | exact decide_eq_true (by omega) | decide +kernel | (refine decide_eq_true ?_; simp (disch := omega) only [i64w]; omega)); conv => whnf)
                    | ((with_reducible refine condm_pos ?_ ?_); (· assumption); conv => whnf)
                    | ((with_reducible refine condm_neg ?_ ?_); (· assumption); conv => whnf)
                    | ((with_reducible refine forceL_fv (by assumption) ?_); conv => whnf)
                    | ((with_reducible refine forceL_rfv (by assumption) ?_); conv => whnf)
                    | ((with_reducible refine forceNm_of ?_); conv => whnf)
                    | ((with_reducible refine needm_of (fv_lenL (by assumption) (by assumption)) ?_); conv => whnf)
                    | ((with_reducible refine optm_var (fv_strL (by assumption) (by assumption)) (fun s hs => ?_)); conv => whnf)
                    | ((with_reducible refine forceA_of ?_); conv => whnf)
                    | ((with_reducible refine forceL_fw (by assumption) ?_); conv => whnf)
                    | ((with_reducible refine forceL_rfw (by assumption) ?_); conv => whnf)
                    | ((with_reducible refine forceL_fl (by assumption) ?_); conv => whnf)
                    | ((with_reducible refine forceL_rfl (by assumption) ?_); conv => whnf)
                    | ((with_reducible refine needm_of ?_ ?_); (· (rw [hol]; rfl)); conv => whnf)
                    | ((with_reducible refine forceL_to (whole_of ?_) ?_); (· rw [hol]; rfl); conv => whnf)
                    | (refine ⟨_, same41 hos (digest_length l), ?_⟩; conv => whnf)
                    | fail)
                  refine Go.Eng.Fn.frame [0] (by rfl) (by exact ⟨ren_fl hfl2 _ _ _, trivial⟩) (by simp [nodupb, V.okb, A.okb, Ob.okb, hfl2.all]) (sum33 l _ rfl h2 hh2 (fun os3 hos3 => ?_))
                  obtain rfl : os3 = os2 := hos3.trans hos.symm
                  conv => whnf
                  refine growx_pre ⟨[], by rw [List.append_nil]; exact (plug_one rfl (ren_fb hfl2 _ _ _)).symm⟩ ?_
                  conv => whnf
                  repeat' (first
                    | ((with_reducible refine regx_of ?_ ?_); (· decide +kernel); conv => whnf)
                    | ((with_reducible refine growx_pre ?_ ?_); (· exact ⟨_, rfl⟩); conv => whnf)
                    | ((with_reducible refine needm_of ?_ ?_); (· first | assumption | exact decide_eq_true (by omega) | decide +kernel | (refine decide_eq_true ?_; simp (disch := omega) only [i64w]; omega)); conv => whnf)
                    | ((with_reducible refine condm_pos ?_ ?_); (· assumption); conv => whnf)
                    | ((with_reducible refine condm_neg ?_ ?_); (· assumption); conv => whnf)
                    | ((with_reducible refine forceL_fv (by assumption) ?_); conv => whnf)
                    | ((with_reducible refine forceL_rfv (by assumption) ?_); conv => whnf)
                    | ((with_reducible refine forceNm_of ?_); conv => whnf)
                    | ((with_reducible refine needm_of (fv_lenL (by assumption) (by assumption)) ?_); conv => whnf)
                    | ((with_reducible refine optm_var (fv_strL (by assumption) (by assumption)) (fun s hs => ?_)); conv => whnf)
                    | ((with_reducible refine forceA_of ?_); conv => whnf)
                    | ((with_reducible refine forceL_fw (by assumption) ?_); conv => whnf)
                    | ((with_reducible refine forceL_rfw (by assumption) ?_); conv => whnf)
                    | ((with_reducible refine forceL_fl (by assumption) ?_); conv => whnf)
                    | ((with_reducible refine forceL_rfl (by assumption) ?_); conv => whnf)
                    | ((with_reducible refine needm_of ?_ ?_); (· (rw [hol]; rfl)); conv => whnf)
                    | ((with_reducible refine forceL_to (whole_of ?_) ?_); (· rw [hol]; rfl); conv => whnf)
                    | (refine ⟨_, same41 hos (digest_length l), ?_⟩; conv => whnf)
                    | fail)
                  refine Go.Eng.Fn.frame [0] (by rfl) (by exact ⟨ren_fl hfl2 _ _ _, trivial⟩) (by simp [nodupb, V.okb, A.okb, Ob.okb, hfl2.all]) (len36 l _ h2 hh2 ?_)
                  conv => whnf
                  refine growx_pre ⟨[], by rw [List.append_nil]; exact (plug_one rfl (ren_fb hfl2 _ _ _)).symm⟩ ?_
                  conv => whnf
                  have c9 : (((l.length % 18446744073709551616 : Nat) : Int) == IntKind.u64.wrap (s.size : Int)) = true := by rw [hsz, u64w]; simp
                  rw [hsz] at c9
                  repeat' (first
                    | rw [hsz]
                    | ((with_reducible refine regx_of ?_ ?_); (· decide +kernel); conv => whnf)
                    | ((with_reducible refine growx_pre ?_ ?_); (· exact ⟨_, rfl⟩); conv => whnf)
                    | ((with_reducible refine needm_of ?_ ?_); (· first | assumption | exact decide_eq_true (by omega) | decide +kernel | (refine decide_eq_true ?_; simp (disch := omega) only [i64w]; omega)); conv => whnf)
                    | ((with_reducible refine condm_pos ?_ ?_); (· assumption); conv => whnf)
                    | ((with_reducible refine condm_neg ?_ ?_); (· assumption); conv => whnf)
                    | ((with_reducible refine forceL_fv (by assumption) ?_); conv => whnf)
                    | ((with_reducible refine forceL_rfv (by assumption) ?_); conv => whnf)
                    | ((with_reducible refine forceNm_of ?_); conv => whnf)
                    | ((with_reducible refine needm_of (fv_lenL (by assumption) (by assumption)) ?_); conv => whnf)
                    | ((with_reducible refine optm_var (fv_strL (by assumption) (by assumption)) (fun s hs => ?_)); conv => whnf)
                    | ((with_reducible refine forceA_of ?_); conv => whnf)
                    | ((with_reducible refine forceL_fw (by assumption) ?_); conv => whnf)
                    | ((with_reducible refine forceL_rfw (by assumption) ?_); conv => whnf)
                    | ((with_reducible refine forceL_fl (by assumption) ?_); conv => whnf)
                    | ((with_reducible refine forceL_rfl (by assumption) ?_); conv => whnf)
                    | fail)
                  exact congrArg (fun b => V.a (A.bool b)) c9
end
def KI : List Sc := [.int .i64]
theorem top9 (W : World) (s : ByteArray) (hs : s.size ≤ 140737488351232) (y : A) (len cap : Nat) (G : Nat → List A) (hG : IsSl W 1 KI y len cap G) (hb : cap * 8 ≤ 140737488351232) :
    Go.Eng.Fn Try.prog (roOf W) 9 [.a (.str s), .a y] [] (fun v _ => v = .a (.bool true)) := by
  have h0 := hG
  have hle : len ≤ cap := by rcases hG with ⟨_, rfl, rfl⟩ | ⟨_, _, h, _⟩ <;> omega
  refine folds9 s _ rfl (by rw [Array.length_toList]; exact hs) y len ?_ (by omega)
  rcases hG with ⟨rfl, rfl, _⟩ | ⟨p, rfl, _, _, _⟩
  · exact .inl ⟨rfl, rfl⟩
  · refine .inr ⟨p, cap, rfl, fun i hi => ?_⟩
    obtain ⟨hf, hr⟩ := h0.get hi
    obtain ⟨n, ys, e, _, _⟩ := Fits.int hf
    have := hr 0 (.int .i64 n) (by rw [e]; rfl)
    rw [Nat.mul_one, Nat.add_zero] at this
    exact ⟨n, this⟩
end Go.Proofs.Ytglbldhineggaaa.DG
