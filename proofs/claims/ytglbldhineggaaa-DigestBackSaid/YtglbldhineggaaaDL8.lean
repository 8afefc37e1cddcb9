import Derived.Test.YtglbldhineggaaaDA
import Derived.Test.YtglbldhineggaaaDY
namespace Go.Proofs.Ytglbldhineggaaa.DG
open Go.Eng
set_option maxRecDepth 100000
theorem dv_hx {n : Nat} (h : n < 16) : dv (hx n) = some n := by
  have : ∀ k : Fin 16, dv (hx k.val) = some k.val := by decide +kernel
  exact this ⟨n, h⟩
theorem hx_dv {c : UInt8} {n : Nat} (h : dv c = some n) : hx n = c ∧ n < 16 := by
  have : ∀ k : Fin 256, ((dv (UInt8.ofNat k.val)).all fun n => decide (hx n = UInt8.ofNat k.val ∧ n < 16)) = true := by decide +kernel
  have := this ⟨c.toNat, c.toNat_lt⟩
  simp only [UInt8.ofNat_toNat, h, Option.all_some] at this
  exact of_decide_eq_true this
theorem unhex_hexS : ∀ l : List UInt8, unhex (hexS l) = some l
  | [] => by rw [hexS_nil]; rfl
  | c :: l => by
    have hc : c.toNat < 256 := c.toNat_lt
    have e : hexS (c :: l) = hx (c.toNat / 16) :: hx (c.toNat % 16) :: hexS l := by simp [hexS]
    rw [e]
    unfold unhex
    rw [dv_hx (by omega), dv_hx (by omega), unhex_hexS l]
    simp only [Option.some.injEq, List.cons.injEq, and_true]
    rw [show 16 * (c.toNat / 16) + c.toNat % 16 = c.toNat by omega]
    simp
theorem hexS_unhex : ∀ (t b : List UInt8), unhex t = some b → hexS b = t
  | [], b, h => by simp only [unhex, Option.some.injEq] at h; subst h; exact hexS_nil
  | [_], b, h => by simp [unhex] at h
  | a :: c :: t, b, h => by
    unfold unhex at h
    split at h
    · rename_i x y r h1 h2 h3
      simp only [Option.some.injEq] at h
      subst h
      obtain ⟨e1, l1⟩ := hx_dv h1
      obtain ⟨e2, l2⟩ := hx_dv h2
      have e : hexS (UInt8.ofNat (16 * x + y) :: r) = hx ((UInt8.ofNat (16 * x + y)).toNat / 16) :: hx ((UInt8.ofNat (16 * x + y)).toNat % 16) :: hexS r := by simp [hexS]
      have et : (UInt8.ofNat (16 * x + y)).toNat = 16 * x + y := by rw [UInt8.toNat_ofNat']; omega
      rw [e, et, show (16 * x + y) / 16 = x by omega, show (16 * x + y) % 16 = y by omega, e1, e2, hexS_unhex t r h3]
    · cases h
section
variable {ro : Addr → A → Prop}
set_option maxHeartbeats 2000000 in
theorem back10 (s t : ByteArray) (hs : s.data.toList.length ≤ 140737488351232) (ht : t.data.toList.length ≤ 140737488351232) : Go.Eng.Fn Try.prog ro 10 [.a (.str s), .a (.str t)] [] (fun v _ => v = .a (.bool true)) := by
  obtain ⟨l, hl⟩ : ∃ l, l = s.data.toList := ⟨_, rfl⟩
  obtain ⟨m, hm⟩ : ∃ m, m = t.data.toList := ⟨_, rfl⟩
  rw [← hl] at hs
  rw [← hm] at ht
  have hsz : s.size = l.length := by rw [hl, Array.length_toList]; rfl
  have htz : t.size = m.length := by rw [hm, Array.length_toList]; rfl
  refine Go.Eng.Fn.of 0 (gOf []) rfl Try.func10 rfl (Nat.le_of_ble_eq_true rfl) ?_
  conv => whnf
  refine Go.Eng.Fn.frame [] (by rfl) (by exact trivial) (by rfl) (awake37 ?_)
  conv => whnf
  refine Go.Eng.Fn.frame [] (by rfl) (by exact trivial) (by rfl) (hex17 s l hl (by omega) (fun x hx => ?_))
  have hxl : x.length = 2 * l.length := by rw [hx, hexS_length]
  conv => whnf
  refine Go.Eng.Fn.frame [] (by rfl) (by exact trivial) (by rfl) (fromHex16 _ x rfl (by omega) (fun h => ?_) (fun r h => ?_))
  · rw [hx, unhex_hexS] at h
    cases h
  rw [hx, unhex_hexS] at h
  injection h with h
  subst h
  have c1 : (!(l.toArray.toList == s.data.toList)) = false := by rw [← hl]; simp
  conv => whnf
  repeat' (first
    | ((with_reducible refine regx_of ?_ ?_); (· decide +kernel); conv => whnf)
    | ((with_reducible refine growx_pre ?_ ?_); (· exact ⟨_, rfl⟩); conv => whnf)
    | ((with_reducible refine needm_of ?_ ?_); (· first | assumption | exact decide_eq_true (by omega) | decide +kernel | (refine decide_eq_true ?_; simp (disch := omega) only [i64w]; omega)); conv => whnf)
    | ((with_reducible refine condm_pos ?_ ?_); (· assumption); conv => whnf)
    | ((with_reducible refine condm_neg ?_ ?_); (· assumption); conv => whnf)
    | ((with_reducible refine forceL_fv (by assumption) ?_); conv => whnf)
    | ((with_reducible refine forceL_rfv (by assumption) ?_); conv => whnf)
    | ((with_reducible refine forceNm_of ?_); conv => whnf)
    | ((with_reducible refine needm_of (fv_lenL (by assumption) (by assumption)) ?_); conv => whnf)
    | ((with_reducible refine optm_var (fv_strL (by assumption) (by assumption)) (fun s hs => ?_)); conv => whnf)
    | ((with_reducible refine forceA_of ?_); conv => whnf)
    | ((with_reducible refine forceL_fw (by assumption) ?_); conv => whnf)
    | ((with_reducible refine forceL_rfw (by assumption) ?_); conv => whnf)
    | ((with_reducible refine forceL_fl (by assumption) ?_); conv => whnf)
    | ((with_reducible refine forceL_rfl (by assumption) ?_); conv => whnf)
    | ((with_reducible refine condm_neg ?_ ?_); (· exact c1); conv => whnf)
    | fail)
  refine Go.Eng.Fn.frame [] (by rfl) (by exact trivial) (by rfl) (hex17 s l hl (by omega) (fun x2 hx2 => ?_))
  obtain rfl : x2 = x := hx2.trans hx.symm
  have c2 : ((((⟨x2.toArray⟩ : ByteArray).size : Nat) : Int) != IntKind.i64.wrap (2 * (s.size : Int))) = false := by
    have e1 : (((⟨x2.toArray⟩ : ByteArray).size : Nat) : Int) = ((2 * l.length : Nat) : Int) := by
      show ((x2.toArray.size : Nat) : Int) = _
      rw [List.size_toArray, hxl]
    rw [e1, hsz, i64w (by omega) (by omega)]
    simp
  conv => whnf
  repeat' (first
    | ((with_reducible refine regx_of ?_ ?_); (· decide +kernel); conv => whnf)
    | ((with_reducible refine growx_pre ?_ ?_); (· exact ⟨_, rfl⟩); conv => whnf)
    | ((with_reducible refine needm_of ?_ ?_); (· first | assumption | exact decide_eq_true (by omega) | decide +kernel | (refine decide_eq_true ?_; simp (disch := omega) only [i64w]; omega)); conv => whnf)
    | ((with_reducible refine condm_pos ?_ ?_); (· assumption); conv => whnf)
    | ((with_reducible refine condm_neg ?_ ?_); (· assumption); conv => whnf)
    | ((with_reducible refine forceL_fv (by assumption) ?_); conv => whnf)
    | ((with_reducible refine forceL_rfv (by assumption) ?_); conv => whnf)
    | ((with_reducible refine forceNm_of ?_); conv => whnf)
    | ((with_reducible refine needm_of (fv_lenL (by assumption) (by assumption)) ?_); conv => whnf)
    | ((with_reducible refine optm_var (fv_strL (by assumption) (by assumption)) (fun s hs => ?_)); conv => whnf)
    | ((with_reducible refine forceA_of ?_); conv => whnf)
    | ((with_reducible refine forceL_fw (by assumption) ?_); conv => whnf)
    | ((with_reducible refine forceL_rfw (by assumption) ?_); conv => whnf)
    | ((with_reducible refine forceL_fl (by assumption) ?_); conv => whnf)
    | ((with_reducible refine forceL_rfl (by assumption) ?_); conv => whnf)
    | ((with_reducible refine condm_neg ?_ ?_); (· first | exact c1 | exact c2); conv => whnf)
    | fail)
  refine Go.Eng.Fn.frame [] (by rfl) (by exact trivial) (by rfl) (fromHex16 t m hm (by omega) (fun h => ?_) (fun b h => ?_))
  · conv => whnf
    repeat' (first
      | ((with_reducible refine regx_of ?_ ?_); (· decide +kernel); conv => whnf)
      | ((with_reducible refine growx_pre ?_ ?_); (· exact ⟨_, rfl⟩); conv => whnf)
      | ((with_reducible refine needm_of ?_ ?_); (· first | assumption | exact decide_eq_true (by omega) | decide +kernel | (refine decide_eq_true ?_; simp (disch := omega) only [i64w]; omega)); conv => whnf)
      | ((with_reducible refine condm_pos ?_ ?_); (· assumption); conv => whnf)
      | ((with_reducible refine condm_neg ?_ ?_); (· assumption); conv => whnf)
      | ((with_reducible refine forceL_fv (by assumption) ?_); conv => whnf)
      | ((with_reducible refine forceL_rfv (by assumption) ?_); conv => whnf)
      | ((with_reducible refine forceNm_of ?_); conv => whnf)
      | ((with_reducible refine needm_of (fv_lenL (by assumption) (by assumption)) ?_); conv => whnf)
      | ((with_reducible refine optm_var (fv_strL (by assumption) (by assumption)) (fun s hs => ?_)); conv => whnf)
      | ((with_reducible refine forceA_of ?_); conv => whnf)
      | ((with_reducible refine forceL_fw (by assumption) ?_); conv => whnf)
      | ((with_reducible refine forceL_rfw (by assumption) ?_); conv => whnf)
      | ((with_reducible refine forceL_fl (by assumption) ?_); conv => whnf)
      | ((with_reducible refine forceL_rfl (by assumption) ?_); conv => whnf)
      | fail)
    rfl
  · have hb := hexS_unhex m b h
    have hbl := unhex_len m b h
    conv => whnf
    repeat' (first
      | ((with_reducible refine regx_of ?_ ?_); (· decide +kernel); conv => whnf)
      | ((with_reducible refine growx_pre ?_ ?_); (· exact ⟨_, rfl⟩); conv => whnf)
      | ((with_reducible refine needm_of ?_ ?_); (· first | assumption | exact decide_eq_true (by omega) | decide +kernel | (refine decide_eq_true ?_; simp (disch := omega) only [i64w]; omega)); conv => whnf)
      | ((with_reducible refine condm_pos ?_ ?_); (· assumption); conv => whnf)
      | ((with_reducible refine condm_neg ?_ ?_); (· assumption); conv => whnf)
      | ((with_reducible refine forceL_fv (by assumption) ?_); conv => whnf)
      | ((with_reducible refine forceL_rfv (by assumption) ?_); conv => whnf)
      | ((with_reducible refine forceNm_of ?_); conv => whnf)
      | ((with_reducible refine needm_of (fv_lenL (by assumption) (by assumption)) ?_); conv => whnf)
      | ((with_reducible refine optm_var (fv_strL (by assumption) (by assumption)) (fun s hs => ?_)); conv => whnf)
      | ((with_reducible refine forceA_of ?_); conv => whnf)
      | ((with_reducible refine forceL_fw (by assumption) ?_); conv => whnf)
      | ((with_reducible refine forceL_rfw (by assumption) ?_); conv => whnf)
      | ((with_reducible refine forceL_fl (by assumption) ?_); conv => whnf)
      | ((with_reducible refine forceL_rfl (by assumption) ?_); conv => whnf)
      | fail)
    refine Go.Eng.Fn.frame [] (by rfl) (by exact trivial) (by rfl) (hex17 _ b rfl (by omega) (fun y hy => ?_))
    rw [hb] at hy
    have c3 : (y.toArray.toList == t.data.toList) = true := by rw [← hm, hy]; simp
    have c4 : (IntKind.i64.wrap ((((⟨b.toArray⟩ : ByteArray).size : Nat) : Int) * 2) == (t.size : Int)) = true := by
      have e1 : (((⟨b.toArray⟩ : ByteArray).size : Nat) : Int) = (b.length : Int) := by
        show ((b.toArray.size : Nat) : Int) = _
        rw [List.size_toArray]
      rw [e1, htz, i64w (by omega) (by omega)]
      simp
      omega
    conv => whnf
    repeat' (first
      | ((with_reducible refine regx_of ?_ ?_); (· decide +kernel); conv => whnf)
      | ((with_reducible refine growx_pre ?_ ?_); (· exact ⟨_, rfl⟩); conv => whnf)
      | ((with_reducible refine needm_of ?_ ?_); (· first | assumption | exact decide_eq_true (by omega) | decide +kernel | (refine decide_eq_true ?_; simp (disch := omega) only [i64w]; omega)); conv => whnf)
      | ((with_reducible refine condm_pos ?_ ?_); (· assumption); conv => whnf)
      | ((with_reducible refine condm_neg ?_ ?_); (· assumption); conv => whnf)
      | ((with_reducible refine forceL_fv (by assumption) ?_); conv => whnf)
      | ((with_reducible refine forceL_rfv (by assumption) ?_); conv => whnf)
      | ((with_reducible refine forceNm_of ?_); conv => whnf)
      | ((with_reducible refine needm_of (fv_lenL (by assumption) (by assumption)) ?_); conv => whnf)
      | ((with_reducible refine optm_var (fv_strL (by assumption) (by assumption)) (fun s hs => ?_)); conv => whnf)
      | ((with_reducible refine forceA_of ?_); conv => whnf)
      | ((with_reducible refine forceL_fw (by assumption) ?_); conv => whnf)
      | ((with_reducible refine forceL_rfw (by assumption) ?_); conv => whnf)
      | ((with_reducible refine forceL_fl (by assumption) ?_); conv => whnf)
      | ((with_reducible refine forceL_rfl (by assumption) ?_); conv => whnf)
      | ((with_reducible refine condm_pos ?_ ?_); (· first | exact c3 | exact c4); conv => whnf)
      | fail)
    exact congrArg (fun b => V.a (A.bool b)) c4
end
theorem top10 (W : World) (s : ByteArray) (hs : s.size ≤ 140737488351232) (t : ByteArray) (ht : t.size ≤ 140737488351232) : Go.Eng.Fn Try.prog (roOf W) 10 [.a (.str s), .a (.str t)] [] (fun v _ => v = .a (.bool true)) :=
  back10 s t (by rw [Array.length_toList]; exact hs) (by rw [Array.length_toList]; exact ht)
end Go.Proofs.Ytglbldhineggaaa.DG
