import Derived.Test.YtglbldhineggaaaDO
namespace Go.Proofs.Ytglbldhineggaaa.DG
open Go.Eng
set_option maxRecDepth 100000
theorem take_chunk {L P : List UInt8} {off len i k : Nat} (hP : P = (L.drop off).take len) (h : i + k ≤ len) : P.take (i + k) = P.take i ++ (L.drop (off + i)).take k := by
  subst hP
  rw [List.take_add, List.drop_take, List.drop_drop, List.take_take, Nat.min_eq_left (by omega), List.take_take, Nat.min_eq_left (by omega)]
section
variable {ro : Addr → A → Prop}
set_option maxHeartbeats 1000000 in
theorem new29 {K : V → Hp → Prop} (hK : ∀ hs, HS [] 0 hs → K (.a (.ptr 0 0)) [.cells hs 68 false]) : Go.Eng.Fn Try.prog ro 29 [] [] K := by
  refine Go.Eng.Fn.weak ?_
  refine Go.Eng.Fn.of_code (gOf []) Try.func29 rfl (Nat.le_of_ble_eq_true rfl) ?_
  conv => whnf
  refine Go.Eng.Fn.frame [] (by rfl) (by exact trivial) (by rfl) (start23 (fun ks hks => ?_))
  subst hks
  conv => whnf
  have hh : hrow s0 (List.replicate 64 0) 0 0 = [A.int .u32 1779033703, .int .u32 3144134277, .int .u32 1013904242, .int .u32 2773480762, .int .u32 1359893119, .int .u32 2600822924, .int .u32 528734635, .int .u32 1541459225] ++ List.replicate 64 (.int .u8 0) ++ [.int .i64 0, .int .u64 0] := by
    unfold hrow u32s u8s
    rfl
  obtain ⟨hs, hhs⟩ : ∃ hs, hs = hrow s0 (List.replicate 64 0) 0 0 := ⟨_, rfl⟩
  have hfl := hrow_flat hhs
  have hH : HS [] 0 hs := by rw [hhs]; exact HS.new
  rw [hh] at hhs
  exact keepOf (v₀ := .a (.ptr 0 0)) [.cells hs 68 false] [0] rfl ⟨by rw [hhs]; rfl, trivial⟩ (by simp [nodupb, baseb, Ob.okb, frmOk, V.okb, A.okb, hfl.all] <;> decide) (hK hs hH)
set_option maxHeartbeats 1000000 in
theorem write31 (T : List UInt8) (n : Nat) (hs cs : List A) (L : List UInt8) (off len cap : Nat) (mk : Bool) (hhs : HS T n hs) (hcs : cs = u8s L) (hlen : off + len ≤ L.length) (hlc : len ≤ cap) (hbig : len ≤ 4611686018427387904) {K : V → Hp → Prop}
    (hK : ∀ hs', HS (T ++ (L.drop off).take len) ((n + len) % 18446744073709551616) hs' → K (.t []) [.cells hs' 68 false, .cells cs 5 mk]) :
    Go.Eng.Fn Try.prog ro 31 [.a (.ptr 0 0), .a (.slc 1 off len cap)] [.cells hs 68 false, .cells cs 5 mk] K := by
  have hfl := hhs.flat
  obtain ⟨R, hR, hRt, hrow0⟩ := hhs
  obtain ⟨z64, hz64⟩ : ∃ zs : List A, zs = [A.int .u8 0, A.int .u8 0, A.int .u8 0, A.int .u8 0, A.int .u8 0, A.int .u8 0, A.int .u8 0, A.int .u8 0, A.int .u8 0, A.int .u8 0, A.int .u8 0, A.int .u8 0, A.int .u8 0, A.int .u8 0, A.int .u8 0, A.int .u8 0, A.int .u8 0, A.int .u8 0, A.int .u8 0, A.int .u8 0, A.int .u8 0, A.int .u8 0, A.int .u8 0, A.int .u8 0, A.int .u8 0, A.int .u8 0, A.int .u8 0, A.int .u8 0, A.int .u8 0, A.int .u8 0, A.int .u8 0, A.int .u8 0, A.int .u8 0, A.int .u8 0, A.int .u8 0, A.int .u8 0, A.int .u8 0, A.int .u8 0, A.int .u8 0, A.int .u8 0, A.int .u8 0, A.int .u8 0, A.int .u8 0, A.int .u8 0, A.int .u8 0, A.int .u8 0, A.int .u8 0, A.int .u8 0, A.int .u8 0, A.int .u8 0, A.int .u8 0, A.int .u8 0, A.int .u8 0, A.int .u8 0, A.int .u8 0, A.int .u8 0, A.int .u8 0, A.int .u8 0, A.int .u8 0, A.int .u8 0, A.int .u8 0, A.int .u8 0, A.int .u8 0, A.int .u8 0] := ⟨_, rfl⟩
  have hz : z64 = u8s (List.replicate 64 0) := by rw [hz64]; unfold u8s; rfl
  have h64l : z64.length = 64 := by rw [u8s_len hz]; rfl
  refine Go.Eng.Fn.weak ?_
  refine Go.Eng.Fn.of 2 h31 rfl Try.func31 rfl (Nat.le_of_ble_eq_true rfl) ?_
  conv => whnf
  repeat' (first
    | rw [← hz64]
    | ((with_reducible refine regx_of ?_ ?_); (· decide +kernel); conv => whnf)
    | ((with_reducible refine growx_pre ?_ ?_); (· exact ⟨_, rfl⟩); conv => whnf)
    | ((with_reducible refine needm_of ?_ ?_); (· first | assumption | exact decide_eq_true (by omega) | exact mkOK_of (by decide) | decide +kernel | (refine decide_eq_true ?_; simp (disch := omega) only [i64w]; omega)); conv => whnf)
    | ((with_reducible refine condm_pos ?_ ?_); (· assumption); conv => whnf)
    | ((with_reducible refine condm_neg ?_ ?_); (· assumption); conv => whnf)
    | ((with_reducible refine forceL_fv (by assumption) ?_); conv => whnf)
    | ((with_reducible refine forceL_rfv (by assumption) ?_); conv => whnf)
    | ((with_reducible refine forceNm_of ?_); conv => whnf)
    | ((with_reducible refine needm_of (fv_lenL (by assumption) (by assumption)) ?_); conv => whnf)
    | ((with_reducible refine optm_var (fv_strL (by assumption) (by assumption)) (fun s hs => ?_)); conv => whnf)
    | ((with_reducible refine forceA_of ?_); conv => whnf)
    | ((with_reducible refine forceL_fw (by assumption) ?_); conv => whnf)
    | ((with_reducible refine forceL_rfw (by assumption) ?_); conv => whnf)
    | ((with_reducible refine forceL_fl (by assumption) ?_); conv => whnf)
    | ((with_reducible refine forceL_rfl (by assumption) ?_); conv => whnf)
    | fail)
  refine optm_of (hrow_n hrow0 hR) ?_
  conv => whnf
  repeat' (first
    | rw [← hz64]
    | ((with_reducible refine regx_of ?_ ?_); (· decide +kernel); conv => whnf)
    | ((with_reducible refine growx_pre ?_ ?_); (· exact ⟨_, rfl⟩); conv => whnf)
    | ((with_reducible refine needm_of ?_ ?_); (· first | assumption | exact decide_eq_true (by omega) | exact mkOK_of (by decide) | decide +kernel | (refine decide_eq_true ?_; simp (disch := omega) only [i64w]; omega)); conv => whnf)
    | ((with_reducible refine condm_pos ?_ ?_); (· assumption); conv => whnf)
    | ((with_reducible refine condm_neg ?_ ?_); (· assumption); conv => whnf)
    | ((with_reducible refine forceL_fv (by assumption) ?_); conv => whnf)
    | ((with_reducible refine forceL_rfv (by assumption) ?_); conv => whnf)
    | ((with_reducible refine forceNm_of ?_); conv => whnf)
    | ((with_reducible refine needm_of (fv_lenL (by assumption) (by assumption)) ?_); conv => whnf)
    | ((with_reducible refine optm_var (fv_strL (by assumption) (by assumption)) (fun s hs => ?_)); conv => whnf)
    | ((with_reducible refine forceA_of ?_); conv => whnf)
    | ((with_reducible refine forceL_fw (by assumption) ?_); conv => whnf)
    | ((with_reducible refine forceL_rfw (by assumption) ?_); conv => whnf)
    | ((with_reducible refine forceL_fl (by assumption) ?_); conv => whnf)
    | ((with_reducible refine forceL_rfl (by assumption) ?_); conv => whnf)
    | fail)
  have hhl : hs.length = 74 := by rw [hrow0]; exact hrow_length hR
  have en : IntKind.u64.wrap (↑n + IntKind.u64.wrap ↑len) = (((n + len) % 18446744073709551616 : Nat) : Int) := by
    rw [u64w, ← Int.natCast_add, u64w]
    congr 1
    omega
  rw [en]
  refine needm_of (by rw [hhl]; rfl) ?_
  conv => whnf
  refine forceL_var (hrow_setN hrow0 hR rfl) (fun hs1 hhs1 => ?_)
  have hfl1 := hrow_flat hhs1
  conv => whnf
  repeat' (first
    | rw [← hz64]
    | ((with_reducible refine regx_of ?_ ?_); (· decide +kernel); conv => whnf)
    | ((with_reducible refine growx_pre ?_ ?_); (· exact ⟨_, rfl⟩); conv => whnf)
    | ((with_reducible refine needm_of ?_ ?_); (· first | assumption | exact decide_eq_true (by omega) | exact mkOK_of (by decide) | decide +kernel | (refine decide_eq_true ?_; simp (disch := omega) only [i64w]; omega)); conv => whnf)
    | ((with_reducible refine condm_pos ?_ ?_); (· assumption); conv => whnf)
    | ((with_reducible refine condm_neg ?_ ?_); (· assumption); conv => whnf)
    | ((with_reducible refine forceL_fv (by assumption) ?_); conv => whnf)
    | ((with_reducible refine forceL_rfv (by assumption) ?_); conv => whnf)
    | ((with_reducible refine forceNm_of ?_); conv => whnf)
    | ((with_reducible refine needm_of (fv_lenL (by assumption) (by assumption)) ?_); conv => whnf)
    | ((with_reducible refine optm_var (fv_strL (by assumption) (by assumption)) (fun s hs => ?_)); conv => whnf)
    | ((with_reducible refine forceA_of ?_); conv => whnf)
    | ((with_reducible refine forceL_fw (by assumption) ?_); conv => whnf)
    | ((with_reducible refine forceL_rfw (by assumption) ?_); conv => whnf)
    | ((with_reducible refine forceL_fl (by assumption) ?_); conv => whnf)
    | ((with_reducible refine forceL_rfl (by assumption) ?_); conv => whnf)
    | fail)
  have hH1 : HS T ((n + len) % 18446744073709551616) hs1 := ⟨R, hR, hRt, hhs1⟩
  clear hhs1 hrow0 hRt hfl hhl en hR
  generalize (n + len) % 18446744073709551616 = n' at *
  obtain ⟨P, hP⟩ : ∃ P, P = (L.drop off).take len := ⟨_, rfl⟩
  have hPl : P.length = len := by rw [hP, List.length_take, List.length_drop]; omega
  rw [← hP] at hK
  refine loopx_of (fun m' F H => ∃ (i o m c : Nat) (T' : List UInt8) (hs : List A), m' = m ∧ i + m = len ∧ (m = 0 ∨ o = off + i) ∧ m ≤ c ∧ T' = T ++ P.take i ∧ HS T' n' hs ∧ F = [(0, .a (.ptr 0 0)), (1, .a (.slc 1 o m c))] ∧ H = [.cells hs 68 false, .cells cs 5 mk]) len ?_ ?_
  · refine Into.weak [0, 1] _ _ ⟨0, off, len, cap, T, hs1, rfl, by omega, by omega, hlc, by simp, hH1, rfl, rfl⟩ ⟨rfl, rfl, trivial⟩ ⟨ren_fl hfl1 _ _ _, ren_fv hcs _ _ _, trivial⟩ ?_
    simp [nodupb, baseb, Ob.okb, frmOk, V.okb, A.okb, all_fv hcs, hfl1.all] <;> decide
  · clear hH1 hfl1 R hs1
    rintro m' F H ⟨i, o, m, c, T', hs, rfl, him, hoi, hmc, hT, hH, rfl, rfl⟩
    have hfl := hH.flat
    conv => whnf
    refine condm_of (fun h => ?_) (fun h => ?_)
    · have hm0 : 0 < m' := by have := of_decide_eq_true h; omega
      have ho : o = off + i := by omega
      have hiL : o + m' ≤ L.length := by omega
      obtain ⟨R, hR, hRt, hrow0⟩ := hH
      have hhl : hs.length = 74 := by rw [hrow0]; exact hrow_length hR
      have hcl : cs.length = L.length := u8s_len hcs
      conv => whnf
      repeat' (first
        | ((with_reducible refine optm_of (hrow_held hrow0 hR) ?_); conv => whnf)
        | rw [← hz64]
        | ((with_reducible refine regx_of ?_ ?_); (· decide +kernel); conv => whnf)
        | ((with_reducible refine growx_pre ?_ ?_); (· exact ⟨_, rfl⟩); conv => whnf)
        | ((with_reducible refine needm_of ?_ ?_); (· first | assumption | exact decide_eq_true (by omega) | exact mkOK_of (by decide) | decide +kernel | (refine decide_eq_true ?_; simp (disch := omega) only [i64w]; omega)); conv => whnf)
        | ((with_reducible refine condm_pos ?_ ?_); (· assumption); conv => whnf)
        | ((with_reducible refine condm_neg ?_ ?_); (· assumption); conv => whnf)
        | ((with_reducible refine forceL_fv (by assumption) ?_); conv => whnf)
        | ((with_reducible refine forceL_rfv (by assumption) ?_); conv => whnf)
        | ((with_reducible refine forceNm_of ?_); conv => whnf)
        | ((with_reducible refine needm_of (fv_lenL (by assumption) (by assumption)) ?_); conv => whnf)
        | ((with_reducible refine optm_var (fv_strL (by assumption) (by assumption)) (fun s hs => ?_)); conv => whnf)
        | ((with_reducible refine forceA_of ?_); conv => whnf)
        | ((with_reducible refine forceL_fw (by assumption) ?_); conv => whnf)
        | ((with_reducible refine forceL_rfw (by assumption) ?_); conv => whnf)
        | ((with_reducible refine forceL_fl (by assumption) ?_); conv => whnf)
        | ((with_reducible refine forceL_rfl (by assumption) ?_); conv => whnf)
        | fail)
      refine condm_of (fun h0 => ?_) (fun h0 => ?_)
      · have hh0 : T'.length % 64 = 0 := by simp at h0; omega
        conv => whnf
        repeat' (first
          | rw [← hz64]
          | ((with_reducible refine regx_of ?_ ?_); (· decide +kernel); conv => whnf)
          | ((with_reducible refine growx_pre ?_ ?_); (· exact ⟨_, rfl⟩); conv => whnf)
          | ((with_reducible refine needm_of ?_ ?_); (· first | assumption | exact decide_eq_true (by omega) | exact mkOK_of (by decide) | decide +kernel | (refine decide_eq_true ?_; simp (disch := omega) only [i64w]; omega)); conv => whnf)
          | ((with_reducible refine condm_pos ?_ ?_); (· assumption); conv => whnf)
          | ((with_reducible refine condm_neg ?_ ?_); (· assumption); conv => whnf)
          | ((with_reducible refine forceL_fv (by assumption) ?_); conv => whnf)
          | ((with_reducible refine forceL_rfv (by assumption) ?_); conv => whnf)
          | ((with_reducible refine forceNm_of ?_); conv => whnf)
          | ((with_reducible refine needm_of (fv_lenL (by assumption) (by assumption)) ?_); conv => whnf)
          | ((with_reducible refine optm_var (fv_strL (by assumption) (by assumption)) (fun s hs => ?_)); conv => whnf)
          | ((with_reducible refine forceA_of ?_); conv => whnf)
          | ((with_reducible refine forceL_fw (by assumption) ?_); conv => whnf)
          | ((with_reducible refine forceL_rfw (by assumption) ?_); conv => whnf)
          | ((with_reducible refine forceL_fl (by assumption) ?_); conv => whnf)
          | ((with_reducible refine forceL_rfl (by assumption) ?_); conv => whnf)
          | fail)
        refine condm_of (fun h6 => ?_) (fun h6 => ?_)
        · have hm64 : 64 ≤ m' := by simp at h6; omega
          conv => whnf
          repeat' (first
            | rw [← hz64]
            | ((with_reducible refine regx_of ?_ ?_); (· decide +kernel); conv => whnf)
            | ((with_reducible refine growx_pre ?_ ?_); (· exact ⟨_, rfl⟩); conv => whnf)
            | ((with_reducible refine needm_of ?_ ?_); (· first | assumption | exact decide_eq_true (by omega) | exact mkOK_of (by decide) | decide +kernel | (refine decide_eq_true ?_; simp (disch := omega) only [i64w]; omega)); conv => whnf)
            | ((with_reducible refine condm_pos ?_ ?_); (· assumption); conv => whnf)
            | ((with_reducible refine condm_neg ?_ ?_); (· assumption); conv => whnf)
            | ((with_reducible refine forceL_fv (by assumption) ?_); conv => whnf)
            | ((with_reducible refine forceL_rfv (by assumption) ?_); conv => whnf)
            | ((with_reducible refine forceNm_of ?_); conv => whnf)
            | ((with_reducible refine needm_of (fv_lenL (by assumption) (by assumption)) ?_); conv => whnf)
            | ((with_reducible refine optm_var (fv_strL (by assumption) (by assumption)) (fun s hs => ?_)); conv => whnf)
            | ((with_reducible refine forceA_of ?_); conv => whnf)
            | ((with_reducible refine forceL_fw (by assumption) ?_); conv => whnf)
            | ((with_reducible refine forceL_rfw (by assumption) ?_); conv => whnf)
            | ((with_reducible refine forceL_fl (by assumption) ?_); conv => whnf)
            | ((with_reducible refine forceL_rfl (by assumption) ?_); conv => whnf)
            | fail)
          have ec : (if c = 0 then o else o + 0 * Try.prog.types[5].size) = o := by split <;> simp
          rw [ec]
          refine needm_of (decide_eq_true (by rw [s64]; omega)) ?_
          conv => whnf
          have hTX := take_chunk hP (i := i) (k := 64) (by omega)
          rw [← ho] at hTX
          have hXl : ((L.drop o).take 64).length = 64 := by rw [List.length_take, List.length_drop]; omega
          refine forceL_var (l' := u8s ((L.drop o).take 64)) ?_ (fun bs hbs => ?_)
          · rw [hcs, s64, u8s_take, u8s_drop, List.drop_take, Nat.add_sub_cancel_left]
          generalize (L.drop o).take 64 = X at *
          have hbl : bs.length = 64 := by rw [u8s_len hbs]; exact hXl
          conv => whnf
          repeat' (first
            | rw [← hz64]
            | ((with_reducible refine regx_of ?_ ?_); (· decide +kernel); conv => whnf)
            | ((with_reducible refine growx_pre ?_ ?_); (· exact ⟨_, rfl⟩); conv => whnf)
            | ((with_reducible refine needm_of ?_ ?_); (· first | assumption | exact decide_eq_true (by omega) | exact mkOK_of (by decide) | decide +kernel | (refine decide_eq_true ?_; simp (disch := omega) only [i64w]; omega)); conv => whnf)
            | ((with_reducible refine condm_pos ?_ ?_); (· assumption); conv => whnf)
            | ((with_reducible refine condm_neg ?_ ?_); (· assumption); conv => whnf)
            | ((with_reducible refine forceL_fv (by assumption) ?_); conv => whnf)
            | ((with_reducible refine forceL_rfv (by assumption) ?_); conv => whnf)
            | ((with_reducible refine forceNm_of ?_); conv => whnf)
            | ((with_reducible refine needm_of (fv_lenL (by assumption) (by assumption)) ?_); conv => whnf)
            | ((with_reducible refine optm_var (fv_strL (by assumption) (by assumption)) (fun s hs => ?_)); conv => whnf)
            | ((with_reducible refine forceA_of ?_); conv => whnf)
            | ((with_reducible refine forceL_fw (by assumption) ?_); conv => whnf)
            | ((with_reducible refine forceL_rfw (by assumption) ?_); conv => whnf)
            | ((with_reducible refine forceL_fl (by assumption) ?_); conv => whnf)
            | ((with_reducible refine forceL_rfl (by assumption) ?_); conv => whnf)
            | fail)
          refine needm_of (by rw [hbl, h64l]; rfl) ?_
          conv => whnf
          repeat' (first
            | rw [← hz64]
            | ((with_reducible refine regx_of ?_ ?_); (· decide +kernel); conv => whnf)
            | ((with_reducible refine growx_pre ?_ ?_); (· exact ⟨_, rfl⟩); conv => whnf)
            | ((with_reducible refine needm_of ?_ ?_); (· first | assumption | exact decide_eq_true (by omega) | exact mkOK_of (by decide) | decide +kernel | (refine decide_eq_true ?_; simp (disch := omega) only [i64w]; omega)); conv => whnf)
            | ((with_reducible refine condm_pos ?_ ?_); (· assumption); conv => whnf)
            | ((with_reducible refine condm_neg ?_ ?_); (· assumption); conv => whnf)
            | ((with_reducible refine forceL_fv (by assumption) ?_); conv => whnf)
            | ((with_reducible refine forceL_rfv (by assumption) ?_); conv => whnf)
            | ((with_reducible refine forceNm_of ?_); conv => whnf)
            | ((with_reducible refine needm_of (fv_lenL (by assumption) (by assumption)) ?_); conv => whnf)
            | ((with_reducible refine optm_var (fv_strL (by assumption) (by assumption)) (fun s hs => ?_)); conv => whnf)
            | ((with_reducible refine forceA_of ?_); conv => whnf)
            | ((with_reducible refine forceL_fw (by assumption) ?_); conv => whnf)
            | ((with_reducible refine forceL_rfw (by assumption) ?_); conv => whnf)
            | ((with_reducible refine forceL_fl (by assumption) ?_); conv => whnf)
            | ((with_reducible refine forceL_rfl (by assumption) ?_); conv => whnf)
            | fail)
          refine forceL_to (store_all (by rw [hbl, h64l])) ?_
          conv => whnf
          repeat' (first
            | rw [← hz64]
            | ((with_reducible refine regx_of ?_ ?_); (· decide +kernel); conv => whnf)
            | ((with_reducible refine growx_pre ?_ ?_); (· exact ⟨_, rfl⟩); conv => whnf)
            | ((with_reducible refine needm_of ?_ ?_); (· first | assumption | exact decide_eq_true (by omega) | exact mkOK_of (by decide) | decide +kernel | (refine decide_eq_true ?_; simp (disch := omega) only [i64w]; omega)); conv => whnf)
            | ((with_reducible refine condm_pos ?_ ?_); (· assumption); conv => whnf)
            | ((with_reducible refine condm_neg ?_ ?_); (· assumption); conv => whnf)
            | ((with_reducible refine forceL_fv (by assumption) ?_); conv => whnf)
            | ((with_reducible refine forceL_rfv (by assumption) ?_); conv => whnf)
            | ((with_reducible refine forceNm_of ?_); conv => whnf)
            | ((with_reducible refine needm_of (fv_lenL (by assumption) (by assumption)) ?_); conv => whnf)
            | ((with_reducible refine optm_var (fv_strL (by assumption) (by assumption)) (fun s hs => ?_)); conv => whnf)
            | ((with_reducible refine forceA_of ?_); conv => whnf)
            | ((with_reducible refine forceL_fw (by assumption) ?_); conv => whnf)
            | ((with_reducible refine forceL_rfw (by assumption) ?_); conv => whnf)
            | ((with_reducible refine forceL_fl (by assumption) ?_); conv => whnf)
            | ((with_reducible refine forceL_rfl (by assumption) ?_); conv => whnf)
            | fail)
          refine needm_of (by rw [hhl]; rfl) ?_
          conv => whnf
          refine forceL_var (hrow_state hrow0) (fun ss hss => ?_)
          conv => whnf
          repeat' (first
            | rw [← hz64]
            | ((with_reducible refine regx_of ?_ ?_); (· decide +kernel); conv => whnf)
            | ((with_reducible refine growx_pre ?_ ?_); (· exact ⟨_, rfl⟩); conv => whnf)
            | ((with_reducible refine needm_of ?_ ?_); (· first | assumption | exact decide_eq_true (by omega) | exact mkOK_of (by decide) | decide +kernel | (refine decide_eq_true ?_; simp (disch := omega) only [i64w]; omega)); conv => whnf)
            | ((with_reducible refine condm_pos ?_ ?_); (· assumption); conv => whnf)
            | ((with_reducible refine condm_neg ?_ ?_); (· assumption); conv => whnf)
            | ((with_reducible refine forceL_fv (by assumption) ?_); conv => whnf)
            | ((with_reducible refine forceL_rfv (by assumption) ?_); conv => whnf)
            | ((with_reducible refine forceNm_of ?_); conv => whnf)
            | ((with_reducible refine needm_of (fv_lenL (by assumption) (by assumption)) ?_); conv => whnf)
            | ((with_reducible refine optm_var (fv_strL (by assumption) (by assumption)) (fun s hs => ?_)); conv => whnf)
            | ((with_reducible refine forceA_of ?_); conv => whnf)
            | ((with_reducible refine forceL_fw (by assumption) ?_); conv => whnf)
            | ((with_reducible refine forceL_rfw (by assumption) ?_); conv => whnf)
            | ((with_reducible refine forceL_fl (by assumption) ?_); conv => whnf)
            | ((with_reducible refine forceL_rfl (by assumption) ?_); conv => whnf)
            | fail)
          refine Go.Eng.Fn.frame [2] (by simp [V.ren, (Flat.u32 hss).ren, A.ren, dsOf]) (by exact ⟨ren_fv hbs _ _ _, trivial⟩) (by simp [nodupb, V.okb, A.okb, Ob.okb, all_fv hbs, (Flat.u32 hss).all]) (step41 _ ss hss bs 0 64 false (Flat.u8 hbs) X (fun j hj => by rw [Nat.zero_add, fv_get hbs (by omega), List.getD_eq_getElem?_getD, List.getElem?_eq_getElem (by omega)]; rfl) (fun rs hrs => ?_))
          have hrl : rs.length = 8 := by rw [fw_len hrs]; rfl
          conv => whnf
          repeat' (first
            | rw [← hz64]
            | ((with_reducible refine regx_of ?_ ?_); (· decide +kernel); conv => whnf)
            | ((with_reducible refine growx_pre ?_ ?_); (· exact ⟨_, rfl⟩); conv => whnf)
            | ((with_reducible refine needm_of ?_ ?_); (· first | assumption | exact decide_eq_true (by omega) | exact mkOK_of (by decide) | decide +kernel | (refine decide_eq_true ?_; simp (disch := omega) only [i64w]; omega)); conv => whnf)
            | ((with_reducible refine condm_pos ?_ ?_); (· assumption); conv => whnf)
            | ((with_reducible refine condm_neg ?_ ?_); (· assumption); conv => whnf)
            | ((with_reducible refine forceL_fv (by assumption) ?_); conv => whnf)
            | ((with_reducible refine forceL_rfv (by assumption) ?_); conv => whnf)
            | ((with_reducible refine forceNm_of ?_); conv => whnf)
            | ((with_reducible refine needm_of (fv_lenL (by assumption) (by assumption)) ?_); conv => whnf)
            | ((with_reducible refine optm_var (fv_strL (by assumption) (by assumption)) (fun s hs => ?_)); conv => whnf)
            | ((with_reducible refine forceA_of ?_); conv => whnf)
            | ((with_reducible refine forceL_fw (by assumption) ?_); conv => whnf)
            | ((with_reducible refine forceL_rfw (by assumption) ?_); conv => whnf)
            | ((with_reducible refine forceL_fl (by assumption) ?_); conv => whnf)
            | ((with_reducible refine forceL_rfl (by assumption) ?_); conv => whnf)
            | fail)
          refine needm_of (by rw [hrl, hhl]; rfl) ?_
          conv => whnf
          refine forceL_var (l := storeL hs 0 rs) (l' := hrow (blockS (blk (T'.length / 64) T') X) R (T'.length % 64) n') (by rw [hrs]; exact hrow_setState hrow0) (fun hs2 hhs2 => ?_)
          have hfl2 := hrow_flat hhs2
          rw [hh0] at hhs2
          have hH2 : HS (T' ++ X) n' hs2 := by rw [hhs2]; exact HS.full hh0 hXl hR
          conv => whnf
          repeat' (first
            | rw [← hz64]
            | ((with_reducible refine regx_of ?_ ?_); (· decide +kernel); conv => whnf)
            | ((with_reducible refine growx_pre ?_ ?_); (· exact ⟨_, rfl⟩); conv => whnf)
            | ((with_reducible refine needm_of ?_ ?_); (· first | assumption | exact decide_eq_true (by omega) | exact mkOK_of (by decide) | decide +kernel | (refine decide_eq_true ?_; simp (disch := omega) only [i64w]; omega)); conv => whnf)
            | ((with_reducible refine condm_pos ?_ ?_); (· assumption); conv => whnf)
            | ((with_reducible refine condm_neg ?_ ?_); (· assumption); conv => whnf)
            | ((with_reducible refine forceL_fv (by assumption) ?_); conv => whnf)
            | ((with_reducible refine forceL_rfv (by assumption) ?_); conv => whnf)
            | ((with_reducible refine forceNm_of ?_); conv => whnf)
            | ((with_reducible refine needm_of (fv_lenL (by assumption) (by assumption)) ?_); conv => whnf)
            | ((with_reducible refine optm_var (fv_strL (by assumption) (by assumption)) (fun s hs => ?_)); conv => whnf)
            | ((with_reducible refine forceA_of ?_); conv => whnf)
            | ((with_reducible refine forceL_fw (by assumption) ?_); conv => whnf)
            | ((with_reducible refine forceL_rfw (by assumption) ?_); conv => whnf)
            | ((with_reducible refine forceL_fl (by assumption) ?_); conv => whnf)
            | ((with_reducible refine forceL_rfl (by assumption) ?_); conv => whnf)
            | fail)
          refine ⟨m' - 64, by omega, Into.weak [0, 1] _ _ ⟨i + 64, (if c = Int.toNat 64 then o else o + Int.toNat 64 * Try.prog.types[5].size), m' - 64, c - 64, T' ++ X, hs2, rfl, by omega, ?_, by omega, by rw [hT, hTX, List.append_assoc], hH2, rfl, rfl⟩ ⟨rfl, rfl, trivial⟩ ⟨ren_fl hfl2 _ _ _, ren_fv hcs _ _ _, trivial⟩ ?_⟩
          · rw [s5]
            split
            · rename_i hc; exact .inl (by have : c = 64 := hc; omega)
            · exact .inr (by show o + 64 * 1 = _; omega)
          · simp [nodupb, baseb, Ob.okb, frmOk, V.okb, A.okb, all_fv hcs, hfl2.all] <;> decide
        · have hm64 : m' < 64 := by simp at h6; omega
          conv => whnf
          have hhd : T'.length % 64 < 64 := Nat.mod_lt _ (by decide)
          repeat' (first
            | ((with_reducible refine optm_of (hrow_held hrow0 hR) ?_); conv => whnf)
            | rw [← hz64]
            | ((with_reducible refine regx_of ?_ ?_); (· decide +kernel); conv => whnf)
            | ((with_reducible refine growx_pre ?_ ?_); (· exact ⟨_, rfl⟩); conv => whnf)
            | ((with_reducible refine needm_of ?_ ?_); (· first | assumption | exact decide_eq_true (by omega) | exact mkOK_of (by decide) | decide +kernel | (refine decide_eq_true ?_; simp (disch := omega) only [i64w]; omega)); conv => whnf)
            | ((with_reducible refine condm_pos ?_ ?_); (· assumption); conv => whnf)
            | ((with_reducible refine condm_neg ?_ ?_); (· assumption); conv => whnf)
            | ((with_reducible refine forceL_fv (by assumption) ?_); conv => whnf)
            | ((with_reducible refine forceL_rfv (by assumption) ?_); conv => whnf)
            | ((with_reducible refine forceNm_of ?_); conv => whnf)
            | ((with_reducible refine needm_of (fv_lenL (by assumption) (by assumption)) ?_); conv => whnf)
            | ((with_reducible refine optm_var (fv_strL (by assumption) (by assumption)) (fun s hs => ?_)); conv => whnf)
            | ((with_reducible refine forceA_of ?_); conv => whnf)
            | ((with_reducible refine forceL_fw (by assumption) ?_); conv => whnf)
            | ((with_reducible refine forceL_rfw (by assumption) ?_); conv => whnf)
            | ((with_reducible refine forceL_fl (by assumption) ?_); conv => whnf)
            | ((with_reducible refine forceL_rfl (by assumption) ?_); conv => whnf)
            | fail)
          have hpt := fun (X : List UInt8) (h : T'.length % 64 + X.length < 64) => HS.part (n := n') hR hRt h
          have hfi := fun (X : List UInt8) (h : T'.length % 64 + X.length = 64) => HS.fill (n := n') hR hRt h
          rw [Int.toNat_natCast, s5]
          generalize hd : T'.length % 64 = d at *
          obtain ⟨k, hk, hk1, hk2, hk3⟩ : ∃ k, m'.min (64 - d) = k ∧ 0 < k ∧ k ≤ m' ∧ d + k ≤ 64 := ⟨_, rfl, by show 0 < min m' (64 - d); omega, by show min m' (64 - d) ≤ m'; omega, by show d + min m' (64 - d) ≤ 64; omega⟩
          rw [hk]
          refine needm_of (decide_eq_true (by omega)) ?_
          conv => whnf
          have hTX := take_chunk hP (i := i) (k := k) (by omega)
          rw [← ho] at hTX
          have hXl : ((L.drop o).take k).length = k := by rw [List.length_take, List.length_drop]; omega
          have hnew : List.drop o (List.take (o + k * 1) cs) = u8s ((L.drop o).take k) := by rw [hcs, Nat.mul_one, u8s_take, u8s_drop, List.drop_take, Nat.add_sub_cancel_left]
          rw [hnew]
          generalize (L.drop o).take k = X at *
          have ed : (if 64 = d then 8 else 8 + d * 1) = 8 + d := by rw [if_neg (by omega), Nat.mul_one]
          rw [ed]
          refine needm_of (decide_eq_true (by rw [u8s_length, hXl, hhl]; omega)) ?_
          conv => whnf
          refine forceL_var (hrow_copy hrow0 rfl (by omega)) (fun hs2 hhs2 => ?_)
          have hpt := hpt X
          have hfi := hfi X
          have hRl : (R.take d ++ X ++ R.drop (d + X.length)).length = 64 := by simp only [List.length_append, List.length_take, List.length_drop]; omega
          rw [hXl] at hpt hfi hhs2 hRl
          generalize R.take d ++ X ++ R.drop (d + k) = R2 at *
          have hfl2 := hrow_flat hhs2
          have hhl2 : hs2.length = 74 := by rw [hhs2]; exact hrow_length hRl
          conv => whnf
          repeat' (first
            | ((with_reducible refine optm_of (hrow_held hhs2 hRl) ?_); conv => whnf)
            | rw [← hz64]
            | ((with_reducible refine regx_of ?_ ?_); (· decide +kernel); conv => whnf)
            | ((with_reducible refine growx_pre ?_ ?_); (· exact ⟨_, rfl⟩); conv => whnf)
            | ((with_reducible refine needm_of ?_ ?_); (· first | assumption | exact decide_eq_true (by omega) | exact mkOK_of (by decide) | decide +kernel | (refine decide_eq_true ?_; simp (disch := omega) only [i64w]; omega)); conv => whnf)
            | ((with_reducible refine condm_pos ?_ ?_); (· assumption); conv => whnf)
            | ((with_reducible refine condm_neg ?_ ?_); (· assumption); conv => whnf)
            | ((with_reducible refine forceL_fv (by assumption) ?_); conv => whnf)
            | ((with_reducible refine forceL_rfv (by assumption) ?_); conv => whnf)
            | ((with_reducible refine forceNm_of ?_); conv => whnf)
            | ((with_reducible refine needm_of (fv_lenL (by assumption) (by assumption)) ?_); conv => whnf)
            | ((with_reducible refine optm_var (fv_strL (by assumption) (by assumption)) (fun s hs => ?_)); conv => whnf)
            | ((with_reducible refine forceA_of ?_); conv => whnf)
            | ((with_reducible refine forceL_fw (by assumption) ?_); conv => whnf)
            | ((with_reducible refine forceL_rfw (by assumption) ?_); conv => whnf)
            | ((with_reducible refine forceL_fl (by assumption) ?_); conv => whnf)
            | ((with_reducible refine forceL_rfl (by assumption) ?_); conv => whnf)
            | fail)
          have edk : IntKind.i64.wrap ((d : Int) + ↑k) = ((d + k : Nat) : Int) := by rw [i64w (by omega) (by omega)]; rfl
          rw [edk]
          refine needm_of (by rw [hhl2]; rfl) ?_
          conv => whnf
          refine forceL_var (hrow_setHeld hhs2 hRl rfl) (fun hs3 hhs3 => ?_)
          have hfl3 := hrow_flat hhs3
          have hhl3 : hs3.length = 74 := by rw [hhs3]; exact hrow_length hRl
          conv => whnf
          repeat' (first
            | ((with_reducible refine optm_of (hrow_held hhs3 hRl) ?_); conv => whnf)
            | rw [← hz64]
            | ((with_reducible refine regx_of ?_ ?_); (· decide +kernel); conv => whnf)
            | ((with_reducible refine growx_pre ?_ ?_); (· exact ⟨_, rfl⟩); conv => whnf)
            | ((with_reducible refine needm_of ?_ ?_); (· first | assumption | exact decide_eq_true (by omega) | exact mkOK_of (by decide) | decide +kernel | (refine decide_eq_true ?_; simp (disch := omega) only [i64w]; omega)); conv => whnf)
            | ((with_reducible refine condm_pos ?_ ?_); (· assumption); conv => whnf)
            | ((with_reducible refine condm_neg ?_ ?_); (· assumption); conv => whnf)
            | ((with_reducible refine forceL_fv (by assumption) ?_); conv => whnf)
            | ((with_reducible refine forceL_rfv (by assumption) ?_); conv => whnf)
            | ((with_reducible refine forceNm_of ?_); conv => whnf)
            | ((with_reducible refine needm_of (fv_lenL (by assumption) (by assumption)) ?_); conv => whnf)
            | ((with_reducible refine optm_var (fv_strL (by assumption) (by assumption)) (fun s hs => ?_)); conv => whnf)
            | ((with_reducible refine forceA_of ?_); conv => whnf)
            | ((with_reducible refine forceL_fw (by assumption) ?_); conv => whnf)
            | ((with_reducible refine forceL_rfw (by assumption) ?_); conv => whnf)
            | ((with_reducible refine forceL_fl (by assumption) ?_); conv => whnf)
            | ((with_reducible refine forceL_rfl (by assumption) ?_); conv => whnf)
            | fail)
          refine condm_of (fun he => ?_) (fun he => ?_)
          · have hdk : d + k = 64 := by simp at he; omega
            exfalso
            omega
          · have hdk : d + k < 64 := by simp at he; omega
            have hH4 := hpt hdk
            rw [← hhs3] at hH4
            conv => whnf
            repeat' (first
              | rw [← hz64]
              | ((with_reducible refine regx_of ?_ ?_); (· decide +kernel); conv => whnf)
              | ((with_reducible refine growx_pre ?_ ?_); (· exact ⟨_, rfl⟩); conv => whnf)
              | ((with_reducible refine needm_of ?_ ?_); (· first | assumption | exact decide_eq_true (by omega) | exact mkOK_of (by decide) | decide +kernel | (refine decide_eq_true ?_; simp (disch := omega) only [i64w]; omega)); conv => whnf)
              | ((with_reducible refine condm_pos ?_ ?_); (· assumption); conv => whnf)
              | ((with_reducible refine condm_neg ?_ ?_); (· assumption); conv => whnf)
              | ((with_reducible refine forceL_fv (by assumption) ?_); conv => whnf)
              | ((with_reducible refine forceL_rfv (by assumption) ?_); conv => whnf)
              | ((with_reducible refine forceNm_of ?_); conv => whnf)
              | ((with_reducible refine needm_of (fv_lenL (by assumption) (by assumption)) ?_); conv => whnf)
              | ((with_reducible refine optm_var (fv_strL (by assumption) (by assumption)) (fun s hs => ?_)); conv => whnf)
              | ((with_reducible refine forceA_of ?_); conv => whnf)
              | ((with_reducible refine forceL_fw (by assumption) ?_); conv => whnf)
              | ((with_reducible refine forceL_rfw (by assumption) ?_); conv => whnf)
              | ((with_reducible refine forceL_fl (by assumption) ?_); conv => whnf)
              | ((with_reducible refine forceL_rfl (by assumption) ?_); conv => whnf)
              | fail)
            refine ⟨m' - k, by omega, Into.weak [0, 1] _ _ ⟨i + k, (if c = ((k : Nat) : Int).toNat then o else o + ((k : Nat) : Int).toNat * Try.prog.types[5].size), m' - k, c - k, T' ++ X, hs3, rfl, by omega, ?_, by omega, by rw [hT, hTX, List.append_assoc], hH4, rfl, rfl⟩ ⟨rfl, rfl, trivial⟩ ⟨ren_fl hfl3 _ _ _, ren_fv hcs _ _ _, trivial⟩ ?_⟩
            · rw [s5, Int.toNat_natCast]
              split
              · rename_i hc; exact .inl (by omega)
              · exact .inr (by omega)
            · simp [nodupb, baseb, Ob.okb, frmOk, V.okb, A.okb, all_fv hcs, hfl3.all] <;> decide
      · conv => whnf
        repeat' (first
          | rw [← hz64]
          | ((with_reducible refine regx_of ?_ ?_); (· decide +kernel); conv => whnf)
          | ((with_reducible refine growx_pre ?_ ?_); (· exact ⟨_, rfl⟩); conv => whnf)
          | ((with_reducible refine needm_of ?_ ?_); (· first | assumption | exact decide_eq_true (by omega) | exact mkOK_of (by decide) | decide +kernel | (refine decide_eq_true ?_; simp (disch := omega) only [i64w]; omega)); conv => whnf)
          | ((with_reducible refine condm_pos ?_ ?_); (· assumption); conv => whnf)
          | ((with_reducible refine condm_neg ?_ ?_); (· assumption); conv => whnf)
          | ((with_reducible refine forceL_fv (by assumption) ?_); conv => whnf)
          | ((with_reducible refine forceL_rfv (by assumption) ?_); conv => whnf)
          | ((with_reducible refine forceNm_of ?_); conv => whnf)
          | ((with_reducible refine needm_of (fv_lenL (by assumption) (by assumption)) ?_); conv => whnf)
          | ((with_reducible refine optm_var (fv_strL (by assumption) (by assumption)) (fun s hs => ?_)); conv => whnf)
          | ((with_reducible refine forceA_of ?_); conv => whnf)
          | ((with_reducible refine forceL_fw (by assumption) ?_); conv => whnf)
          | ((with_reducible refine forceL_rfw (by assumption) ?_); conv => whnf)
          | ((with_reducible refine forceL_fl (by assumption) ?_); conv => whnf)
          | ((with_reducible refine forceL_rfl (by assumption) ?_); conv => whnf)
          | fail)
        have hhd : T'.length % 64 < 64 := Nat.mod_lt _ (by decide)
        repeat' (first
          | ((with_reducible refine optm_of (hrow_held hrow0 hR) ?_); conv => whnf)
          | rw [← hz64]
          | ((with_reducible refine regx_of ?_ ?_); (· decide +kernel); conv => whnf)
          | ((with_reducible refine growx_pre ?_ ?_); (· exact ⟨_, rfl⟩); conv => whnf)
          | ((with_reducible refine needm_of ?_ ?_); (· first | assumption | exact decide_eq_true (by omega) | exact mkOK_of (by decide) | decide +kernel | (refine decide_eq_true ?_; simp (disch := omega) only [i64w]; omega)); conv => whnf)
          | ((with_reducible refine condm_pos ?_ ?_); (· assumption); conv => whnf)
          | ((with_reducible refine condm_neg ?_ ?_); (· assumption); conv => whnf)
          | ((with_reducible refine forceL_fv (by assumption) ?_); conv => whnf)
          | ((with_reducible refine forceL_rfv (by assumption) ?_); conv => whnf)
          | ((with_reducible refine forceNm_of ?_); conv => whnf)
          | ((with_reducible refine needm_of (fv_lenL (by assumption) (by assumption)) ?_); conv => whnf)
          | ((with_reducible refine optm_var (fv_strL (by assumption) (by assumption)) (fun s hs => ?_)); conv => whnf)
          | ((with_reducible refine forceA_of ?_); conv => whnf)
          | ((with_reducible refine forceL_fw (by assumption) ?_); conv => whnf)
          | ((with_reducible refine forceL_rfw (by assumption) ?_); conv => whnf)
          | ((with_reducible refine forceL_fl (by assumption) ?_); conv => whnf)
          | ((with_reducible refine forceL_rfl (by assumption) ?_); conv => whnf)
          | fail)
        have hpt := fun (X : List UInt8) (h : T'.length % 64 + X.length < 64) => HS.part (n := n') hR hRt h
        have hfi := fun (X : List UInt8) (h : T'.length % 64 + X.length = 64) => HS.fill (n := n') hR hRt h
        rw [Int.toNat_natCast, s5]
        generalize hd : T'.length % 64 = d at *
        obtain ⟨k, hk, hk1, hk2, hk3⟩ : ∃ k, m'.min (64 - d) = k ∧ 0 < k ∧ k ≤ m' ∧ d + k ≤ 64 := ⟨_, rfl, by show 0 < min m' (64 - d); omega, by show min m' (64 - d) ≤ m'; omega, by show d + min m' (64 - d) ≤ 64; omega⟩
        rw [hk]
        refine needm_of (decide_eq_true (by omega)) ?_
        conv => whnf
        have hTX := take_chunk hP (i := i) (k := k) (by omega)
        rw [← ho] at hTX
        have hXl : ((L.drop o).take k).length = k := by rw [List.length_take, List.length_drop]; omega
        have hnew : List.drop o (List.take (o + k * 1) cs) = u8s ((L.drop o).take k) := by rw [hcs, Nat.mul_one, u8s_take, u8s_drop, List.drop_take, Nat.add_sub_cancel_left]
        rw [hnew]
        generalize (L.drop o).take k = X at *
        have ed : (if 64 = d then 8 else 8 + d * 1) = 8 + d := by rw [if_neg (by omega), Nat.mul_one]
        rw [ed]
        refine needm_of (decide_eq_true (by rw [u8s_length, hXl, hhl]; omega)) ?_
        conv => whnf
        refine forceL_var (hrow_copy hrow0 rfl (by omega)) (fun hs2 hhs2 => ?_)
        have hpt := hpt X
        have hfi := hfi X
        have hRl : (R.take d ++ X ++ R.drop (d + X.length)).length = 64 := by simp only [List.length_append, List.length_take, List.length_drop]; omega
        rw [hXl] at hpt hfi hhs2 hRl
        generalize R.take d ++ X ++ R.drop (d + k) = R2 at *
        have hfl2 := hrow_flat hhs2
        have hhl2 : hs2.length = 74 := by rw [hhs2]; exact hrow_length hRl
        conv => whnf
        repeat' (first
          | ((with_reducible refine optm_of (hrow_held hhs2 hRl) ?_); conv => whnf)
          | rw [← hz64]
          | ((with_reducible refine regx_of ?_ ?_); (· decide +kernel); conv => whnf)
          | ((with_reducible refine growx_pre ?_ ?_); (· exact ⟨_, rfl⟩); conv => whnf)
          | ((with_reducible refine needm_of ?_ ?_); (· first | assumption | exact decide_eq_true (by omega) | exact mkOK_of (by decide) | decide +kernel | (refine decide_eq_true ?_; simp (disch := omega) only [i64w]; omega)); conv => whnf)
          | ((with_reducible refine condm_pos ?_ ?_); (· assumption); conv => whnf)
          | ((with_reducible refine condm_neg ?_ ?_); (· assumption); conv => whnf)
          | ((with_reducible refine forceL_fv (by assumption) ?_); conv => whnf)
          | ((with_reducible refine forceL_rfv (by assumption) ?_); conv => whnf)
          | ((with_reducible refine forceNm_of ?_); conv => whnf)
          | ((with_reducible refine needm_of (fv_lenL (by assumption) (by assumption)) ?_); conv => whnf)
          | ((with_reducible refine optm_var (fv_strL (by assumption) (by assumption)) (fun s hs => ?_)); conv => whnf)
          | ((with_reducible refine forceA_of ?_); conv => whnf)
          | ((with_reducible refine forceL_fw (by assumption) ?_); conv => whnf)
          | ((with_reducible refine forceL_rfw (by assumption) ?_); conv => whnf)
          | ((with_reducible refine forceL_fl (by assumption) ?_); conv => whnf)
          | ((with_reducible refine forceL_rfl (by assumption) ?_); conv => whnf)
          | fail)
        have edk : IntKind.i64.wrap ((d : Int) + ↑k) = ((d + k : Nat) : Int) := by rw [i64w (by omega) (by omega)]; rfl
        rw [edk]
        refine needm_of (by rw [hhl2]; rfl) ?_
        conv => whnf
        refine forceL_var (hrow_setHeld hhs2 hRl rfl) (fun hs3 hhs3 => ?_)
        have hfl3 := hrow_flat hhs3
        have hhl3 : hs3.length = 74 := by rw [hhs3]; exact hrow_length hRl
        conv => whnf
        repeat' (first
          | ((with_reducible refine optm_of (hrow_held hhs3 hRl) ?_); conv => whnf)
          | rw [← hz64]
          | ((with_reducible refine regx_of ?_ ?_); (· decide +kernel); conv => whnf)
          | ((with_reducible refine growx_pre ?_ ?_); (· exact ⟨_, rfl⟩); conv => whnf)
          | ((with_reducible refine needm_of ?_ ?_); (· first | assumption | exact decide_eq_true (by omega) | exact mkOK_of (by decide) | decide +kernel | (refine decide_eq_true ?_; simp (disch := omega) only [i64w]; omega)); conv => whnf)
          | ((with_reducible refine condm_pos ?_ ?_); (· assumption); conv => whnf)
          | ((with_reducible refine condm_neg ?_ ?_); (· assumption); conv => whnf)
          | ((with_reducible refine forceL_fv (by assumption) ?_); conv => whnf)
          | ((with_reducible refine forceL_rfv (by assumption) ?_); conv => whnf)
          | ((with_reducible refine forceNm_of ?_); conv => whnf)
          | ((with_reducible refine needm_of (fv_lenL (by assumption) (by assumption)) ?_); conv => whnf)
          | ((with_reducible refine optm_var (fv_strL (by assumption) (by assumption)) (fun s hs => ?_)); conv => whnf)
          | ((with_reducible refine forceA_of ?_); conv => whnf)
          | ((with_reducible refine forceL_fw (by assumption) ?_); conv => whnf)
          | ((with_reducible refine forceL_rfw (by assumption) ?_); conv => whnf)
          | ((with_reducible refine forceL_fl (by assumption) ?_); conv => whnf)
          | ((with_reducible refine forceL_rfl (by assumption) ?_); conv => whnf)
          | fail)
        refine condm_of (fun he => ?_) (fun he => ?_)
        · have hdk : d + k = 64 := by simp at he; omega
          have hH4 := hfi hdk
          conv => whnf
          repeat' (first
            | rw [← hz64]
            | ((with_reducible refine regx_of ?_ ?_); (· decide +kernel); conv => whnf)
            | ((with_reducible refine growx_pre ?_ ?_); (· exact ⟨_, rfl⟩); conv => whnf)
            | ((with_reducible refine needm_of ?_ ?_); (· first | assumption | exact decide_eq_true (by omega) | exact mkOK_of (by decide) | decide +kernel | (refine decide_eq_true ?_; simp (disch := omega) only [i64w]; omega)); conv => whnf)
            | ((with_reducible refine condm_pos ?_ ?_); (· assumption); conv => whnf)
            | ((with_reducible refine condm_neg ?_ ?_); (· assumption); conv => whnf)
            | ((with_reducible refine forceL_fv (by assumption) ?_); conv => whnf)
            | ((with_reducible refine forceL_rfv (by assumption) ?_); conv => whnf)
            | ((with_reducible refine forceNm_of ?_); conv => whnf)
            | ((with_reducible refine needm_of (fv_lenL (by assumption) (by assumption)) ?_); conv => whnf)
            | ((with_reducible refine optm_var (fv_strL (by assumption) (by assumption)) (fun s hs => ?_)); conv => whnf)
            | ((with_reducible refine forceA_of ?_); conv => whnf)
            | ((with_reducible refine forceL_fw (by assumption) ?_); conv => whnf)
            | ((with_reducible refine forceL_rfw (by assumption) ?_); conv => whnf)
            | ((with_reducible refine forceL_fl (by assumption) ?_); conv => whnf)
            | ((with_reducible refine forceL_rfl (by assumption) ?_); conv => whnf)
            | fail)
          refine needm_of (by rw [hhl3]; rfl) ?_
          conv => whnf
          refine forceL_var (hrow_state hhs3) (fun ss hss => ?_)
          conv => whnf
          repeat' (first
            | rw [← hz64]
            | ((with_reducible refine regx_of ?_ ?_); (· decide +kernel); conv => whnf)
            | ((with_reducible refine growx_pre ?_ ?_); (· exact ⟨_, rfl⟩); conv => whnf)
            | ((with_reducible refine needm_of ?_ ?_); (· first | assumption | exact decide_eq_true (by omega) | exact mkOK_of (by decide) | decide +kernel | (refine decide_eq_true ?_; simp (disch := omega) only [i64w]; omega)); conv => whnf)
            | ((with_reducible refine condm_pos ?_ ?_); (· assumption); conv => whnf)
            | ((with_reducible refine condm_neg ?_ ?_); (· assumption); conv => whnf)
            | ((with_reducible refine forceL_fv (by assumption) ?_); conv => whnf)
            | ((with_reducible refine forceL_rfv (by assumption) ?_); conv => whnf)
            | ((with_reducible refine forceNm_of ?_); conv => whnf)
            | ((with_reducible refine needm_of (fv_lenL (by assumption) (by assumption)) ?_); conv => whnf)
            | ((with_reducible refine optm_var (fv_strL (by assumption) (by assumption)) (fun s hs => ?_)); conv => whnf)
            | ((with_reducible refine forceA_of ?_); conv => whnf)
            | ((with_reducible refine forceL_fw (by assumption) ?_); conv => whnf)
            | ((with_reducible refine forceL_rfw (by assumption) ?_); conv => whnf)
            | ((with_reducible refine forceL_fl (by assumption) ?_); conv => whnf)
            | ((with_reducible refine forceL_rfl (by assumption) ?_); conv => whnf)
            | fail)
          refine Go.Eng.Fn.frame [0] (by simp [V.ren, (Flat.u32 hss).ren, A.ren, dsOf]) (by exact ⟨ren_fl hfl3 _ _ _, trivial⟩) (by simp [nodupb, V.okb, A.okb, Ob.okb, hfl3.all, (Flat.u32 hss).all]) (step41 _ ss hss hs3 8 68 false hfl3 R2 (fun j hj => hrow_rest hhs3 hRl hj) (fun rs hrs => ?_))
          have hrl : rs.length = 8 := by rw [fw_len hrs]; rfl
          conv => whnf
          refine growx_pre ⟨[], by simp [plugL, Ob.ren, hfl3.ren]⟩ ?_
          conv => whnf
          repeat' (first
            | rw [← hz64]
            | ((with_reducible refine regx_of ?_ ?_); (· decide +kernel); conv => whnf)
            | ((with_reducible refine growx_pre ?_ ?_); (· exact ⟨_, rfl⟩); conv => whnf)
            | ((with_reducible refine needm_of ?_ ?_); (· first | assumption | exact decide_eq_true (by omega) | exact mkOK_of (by decide) | decide +kernel | (refine decide_eq_true ?_; simp (disch := omega) only [i64w]; omega)); conv => whnf)
            | ((with_reducible refine condm_pos ?_ ?_); (· assumption); conv => whnf)
            | ((with_reducible refine condm_neg ?_ ?_); (· assumption); conv => whnf)
            | ((with_reducible refine forceL_fv (by assumption) ?_); conv => whnf)
            | ((with_reducible refine forceL_rfv (by assumption) ?_); conv => whnf)
            | ((with_reducible refine forceNm_of ?_); conv => whnf)
            | ((with_reducible refine needm_of (fv_lenL (by assumption) (by assumption)) ?_); conv => whnf)
            | ((with_reducible refine optm_var (fv_strL (by assumption) (by assumption)) (fun s hs => ?_)); conv => whnf)
            | ((with_reducible refine forceA_of ?_); conv => whnf)
            | ((with_reducible refine forceL_fw (by assumption) ?_); conv => whnf)
            | ((with_reducible refine forceL_rfw (by assumption) ?_); conv => whnf)
            | ((with_reducible refine forceL_fl (by assumption) ?_); conv => whnf)
            | ((with_reducible refine forceL_rfl (by assumption) ?_); conv => whnf)
            | fail)
          refine needm_of (by rw [hrl, hhl3]; rfl) ?_
          conv => whnf
          refine forceL_var (l := storeL hs3 0 rs) (l' := hrow (blockS (blk (T'.length / 64) T') R2) R2 (d + k) n') (by rw [hrs]; exact hrow_setState hhs3) (fun hs4 hhs4 => ?_)
          have hfl4 := hrow_flat hhs4
          have hhl4 : hs4.length = 74 := by rw [hhs4]; exact hrow_length hRl
          conv => whnf
          repeat' (first
            | rw [← hz64]
            | ((with_reducible refine regx_of ?_ ?_); (· decide +kernel); conv => whnf)
            | ((with_reducible refine growx_pre ?_ ?_); (· exact ⟨_, rfl⟩); conv => whnf)
            | ((with_reducible refine needm_of ?_ ?_); (· first | assumption | exact decide_eq_true (by omega) | exact mkOK_of (by decide) | decide +kernel | (refine decide_eq_true ?_; simp (disch := omega) only [i64w]; omega)); conv => whnf)
            | ((with_reducible refine condm_pos ?_ ?_); (· assumption); conv => whnf)
            | ((with_reducible refine condm_neg ?_ ?_); (· assumption); conv => whnf)
            | ((with_reducible refine forceL_fv (by assumption) ?_); conv => whnf)
            | ((with_reducible refine forceL_rfv (by assumption) ?_); conv => whnf)
            | ((with_reducible refine forceNm_of ?_); conv => whnf)
            | ((with_reducible refine needm_of (fv_lenL (by assumption) (by assumption)) ?_); conv => whnf)
            | ((with_reducible refine optm_var (fv_strL (by assumption) (by assumption)) (fun s hs => ?_)); conv => whnf)
            | ((with_reducible refine forceA_of ?_); conv => whnf)
            | ((with_reducible refine forceL_fw (by assumption) ?_); conv => whnf)
            | ((with_reducible refine forceL_rfw (by assumption) ?_); conv => whnf)
            | ((with_reducible refine forceL_fl (by assumption) ?_); conv => whnf)
            | ((with_reducible refine forceL_rfl (by assumption) ?_); conv => whnf)
            | fail)
          refine needm_of (by rw [hhl4]; rfl) ?_
          conv => whnf
          refine forceL_var (hrow_setHeld (held' := 0) hhs4 hRl rfl) (fun hs5 hhs5 => ?_)
          have hfl5 := hrow_flat hhs5
          rw [← hhs5] at hH4
          conv => whnf
          repeat' (first
            | rw [← hz64]
            | ((with_reducible refine regx_of ?_ ?_); (· decide +kernel); conv => whnf)
            | ((with_reducible refine growx_pre ?_ ?_); (· exact ⟨_, rfl⟩); conv => whnf)
            | ((with_reducible refine needm_of ?_ ?_); (· first | assumption | exact decide_eq_true (by omega) | exact mkOK_of (by decide) | decide +kernel | (refine decide_eq_true ?_; simp (disch := omega) only [i64w]; omega)); conv => whnf)
            | ((with_reducible refine condm_pos ?_ ?_); (· assumption); conv => whnf)
            | ((with_reducible refine condm_neg ?_ ?_); (· assumption); conv => whnf)
            | ((with_reducible refine forceL_fv (by assumption) ?_); conv => whnf)
            | ((with_reducible refine forceL_rfv (by assumption) ?_); conv => whnf)
            | ((with_reducible refine forceNm_of ?_); conv => whnf)
            | ((with_reducible refine needm_of (fv_lenL (by assumption) (by assumption)) ?_); conv => whnf)
            | ((with_reducible refine optm_var (fv_strL (by assumption) (by assumption)) (fun s hs => ?_)); conv => whnf)
            | ((with_reducible refine forceA_of ?_); conv => whnf)
            | ((with_reducible refine forceL_fw (by assumption) ?_); conv => whnf)
            | ((with_reducible refine forceL_rfw (by assumption) ?_); conv => whnf)
            | ((with_reducible refine forceL_fl (by assumption) ?_); conv => whnf)
            | ((with_reducible refine forceL_rfl (by assumption) ?_); conv => whnf)
            | fail)
          refine ⟨m' - k, by omega, Into.weak [0, 1] _ _ ⟨i + k, (if c = ((k : Nat) : Int).toNat then o else o + ((k : Nat) : Int).toNat * Try.prog.types[5].size), m' - k, c - k, T' ++ X, hs5, rfl, by omega, ?_, by omega, by rw [hT, hTX, List.append_assoc], hH4, rfl, rfl⟩ ⟨rfl, rfl, trivial⟩ ⟨ren_fl hfl5 _ _ _, ren_fv hcs _ _ _, trivial⟩ ?_⟩
          · rw [s5, Int.toNat_natCast]
            split
            · rename_i hc; exact .inl (by omega)
            · exact .inr (by omega)
          · simp [nodupb, baseb, Ob.okb, frmOk, V.okb, A.okb, all_fv hcs, hfl5.all] <;> decide
        · have hdk : d + k < 64 := by simp at he; omega
          have hH4 := hpt hdk
          rw [← hhs3] at hH4
          conv => whnf
          repeat' (first
            | rw [← hz64]
            | ((with_reducible refine regx_of ?_ ?_); (· decide +kernel); conv => whnf)
            | ((with_reducible refine growx_pre ?_ ?_); (· exact ⟨_, rfl⟩); conv => whnf)
            | ((with_reducible refine needm_of ?_ ?_); (· first | assumption | exact decide_eq_true (by omega) | exact mkOK_of (by decide) | decide +kernel | (refine decide_eq_true ?_; simp (disch := omega) only [i64w]; omega)); conv => whnf)
            | ((with_reducible refine condm_pos ?_ ?_); (· assumption); conv => whnf)
            | ((with_reducible refine condm_neg ?_ ?_); (· assumption); conv => whnf)
            | ((with_reducible refine forceL_fv (by assumption) ?_); conv => whnf)
            | ((with_reducible refine forceL_rfv (by assumption) ?_); conv => whnf)
            | ((with_reducible refine forceNm_of ?_); conv => whnf)
            | ((with_reducible refine needm_of (fv_lenL (by assumption) (by assumption)) ?_); conv => whnf)
            | ((with_reducible refine optm_var (fv_strL (by assumption) (by assumption)) (fun s hs => ?_)); conv => whnf)
            | ((with_reducible refine forceA_of ?_); conv => whnf)
            | ((with_reducible refine forceL_fw (by assumption) ?_); conv => whnf)
            | ((with_reducible refine forceL_rfw (by assumption) ?_); conv => whnf)
            | ((with_reducible refine forceL_fl (by assumption) ?_); conv => whnf)
            | ((with_reducible refine forceL_rfl (by assumption) ?_); conv => whnf)
            | fail)
          refine ⟨m' - k, by omega, Into.weak [0, 1] _ _ ⟨i + k, (if c = ((k : Nat) : Int).toNat then o else o + ((k : Nat) : Int).toNat * Try.prog.types[5].size), m' - k, c - k, T' ++ X, hs3, rfl, by omega, ?_, by omega, by rw [hT, hTX, List.append_assoc], hH4, rfl, rfl⟩ ⟨rfl, rfl, trivial⟩ ⟨ren_fl hfl3 _ _ _, ren_fv hcs _ _ _, trivial⟩ ?_⟩
          · rw [s5, Int.toNat_natCast]
            split
            · rename_i hc; exact .inl (by omega)
            · exact .inr (by omega)
          · simp [nodupb, baseb, Ob.okb, frmOk, V.okb, A.okb, all_fv hcs, hfl3.all] <;> decide
    · have hm0 : m' = 0 := by have := of_decide_eq_false h; omega
      have hil : i = len := by omega
      conv => whnf
      rw [hil, List.take_of_length_le (by omega)] at hT
      rw [hT] at hH
      exact keepOf (v₀ := .t []) [.cells hs 68 false, .cells cs 5 mk] [0, 1] rfl ⟨ren_fl hfl _ _ _, ren_fv hcs _ _ _, trivial⟩ (by simp [nodupb, baseb, Ob.okb, frmOk, V.okb, all_fv hcs, hfl.all] <;> decide) (hK hs hH)
end
end Go.Proofs.Ytglbldhineggaaa.DG
