import Derived.Test.YtglbldhineggaaaEngH
import Derived.Test.YtglbldhineggaaaProg
namespace Go.Proofs.Ytglbldhineggaaa.DG
open Go.Eng
set_option maxRecDepth 100000
@[irreducible] def be8 (x : Nat) : List UInt8 := (List.range 8).map fun i => UInt8.ofNat (x / 2 ^ (56 - 8 * i))
@[irreducible] def fillS (n : Nat) : List UInt8 := 128 :: (List.replicate (63 - (n + 8) % 64) 0 ++ be8 (8 * n % 18446744073709551616))
@[irreducible] def fillP (n i : Nat) : List UInt8 := 128 :: (List.replicate (63 - (n + 8) % 64) 0 ++ (List.replicate (8 - i) 0 ++ (be8 (8 * n % 18446744073709551616)).drop (8 - i)))
theorem be8_length (x : Nat) : (be8 x).length = 8 := by simp [be8]
theorem fillS_length (n : Nat) : (fillS n).length = 72 - (n + 8) % 64 := by
  simp only [fillS, List.length_cons, List.length_append, List.length_replicate, be8_length]; omega
theorem fillP_length {n i : Nat} (h : i ≤ 8) : (fillP n i).length = 72 - (n + 8) % 64 := by
  simp only [fillP, List.length_cons, List.length_append, List.length_replicate, List.length_drop, be8_length]; omega
theorem fillP_8 (n : Nat) : fillP n 8 = fillS n := by simp [fillP, fillS]
theorem fillP_0 (n : Nat) : fillP n 0 = (List.replicate (72 - (n + 8) % 64) 0).set 0 128 := by
  have : 72 - (n + 8) % 64 = (63 - (n + 8) % 64 + 8) + 1 := by omega
  rw [this, List.replicate_succ, List.set_cons_zero]
  simp only [fillP, Nat.sub_zero]
  rw [List.drop_of_length_le (by rw [be8_length]; omega), List.append_nil, List.replicate_append_replicate]
theorem fillP_set {n i : Nat} (h : i < 8) : (fillP n i).set (71 - (n + 8) % 64 - i) (UInt8.ofNat (8 * n % 18446744073709551616 / 2 ^ (8 * i))) = fillP n (i + 1) := by
  generalize hx : 8 * n % 18446744073709551616 = x
  have hr : (n + 8) % 64 < 64 := Nat.mod_lt _ (by decide)
  unfold fillP
  rw [hx]
  generalize hq : 63 - (n + 8) % 64 = q
  rw [show 71 - (n + 8) % 64 - i = (q + (7 - i)) + 1 by omega, List.set_cons_succ]
  congr 1
  rw [List.set_append_right _ _ (by simp)]
  congr 1
  rw [List.length_replicate, show q + (7 - i) - q = 7 - i by omega]
  rw [show 8 - i = (7 - i) + 1 by omega, List.replicate_succ', List.append_assoc, List.set_append_right _ _ (by simp)]
  rw [List.length_replicate, Nat.sub_self, show 8 - (i + 1) = 7 - i by omega]
  congr 1
  rw [List.singleton_append, List.set_cons_zero]
  have h7 : 7 - i < (be8 x).length := by rw [be8_length]; omega
  rw [List.drop_eq_getElem_cons h7]
  congr 1
  simp only [be8, List.getElem_map, List.getElem_range]
  rw [show 56 - 8 * (7 - i) = 8 * i by omega]
theorem s5 : Try.prog.types[5].size = 1 := rfl
section
variable {ro : Addr → A → Prop}
set_option maxHeartbeats 0 in
theorem fill13 (n : Nat) {K : V → Hp → Prop} (hk₀ : ∀ x cs len cap, cs = u8s (fillS n ++ x) → len = (fillS n).length → cap = len + x.length → K (.a (.slc 0 0 len cap)) [.cells cs 5 false]) :
    Go.Eng.Fn Try.prog ro 13 [.a (.int .u64 n)] [] K := by
  have hk : K (.a (.slc 0 0 (72 - (n + 8) % 64) (72 - (n + 8) % 64))) [.cells (u8s (fillS n)) 5 false] := hk₀ [] _ _ _ (by rw [List.append_nil]) (by rw [fillS_length]) rfl
  have hr : (n + 8) % 64 < 64 := Nat.mod_lt _ (by decide)
  have e : IntKind.i64.wrap (72 - IntKind.i64.wrap ((IntKind.u64.wrap (↑n + 8)).tmod 64)) = ((72 - (n + 8) % 64 : Nat) : Int) := by
    have h1 : IntKind.u64.wrap (↑n + 8) = (((n + 8) % 18446744073709551616 : Nat) : Int) := u64w (n + 8)
    have h2 : (((n + 8) % 18446744073709551616 : Nat) : Int).tmod 64 = (((n + 8) % 64 : Nat) : Int) := by
      rw [show (64 : Int) = ((64 : Nat) : Int) from rfl, tmodN]
      congr 1
      exact Nat.mod_mod_of_dvd _ (by decide)
    rw [h1, h2, i64w (x := (((n + 8) % 64 : Nat) : Int)) (by omega) (by omega), i64w (by omega) (by omega)]
    omega
  have e8 : IntKind.u64.wrap (8 * ↑n) = ((8 * n % 18446744073709551616 : Nat) : Int) := u64w (8 * n)
  refine Go.Eng.Fn.weak ?_
  refine Go.Eng.Fn.of_code (gOf []) Try.func13 rfl (Nat.le_of_ble_eq_true rfl) ?_
  conv => whnf
  rw [e]
  generalize hL : 72 - (n + 8) % 64 = L at *
  refine needm_of (mkOK_of ⟨by omega, by omega, by omega, by show (1 : Int) * _ ≤ _; omega⟩) ?_
  conv => whnf
  have hL1 : 9 ≤ L := by omega
  have hp0 := fillP_0 n
  rw [hL] at hp0
  refine forceL_var (l' := u8s (List.replicate L 0)) (by rw [s5, Nat.mul_one, Int.toNat_natCast, repl_u8]) (fun zs hzs => ?_)
  conv => whnf
  refine needm_of (decide_eq_true (by simp; omega)) ?_
  conv => whnf
  repeat' (first
    | ((with_reducible refine regx_of ?_ ?_); (· decide +kernel); conv => whnf)
    | ((with_reducible refine growx_pre ?_ ?_); (· exact ⟨_, rfl⟩); conv => whnf)
    | ((with_reducible refine needm_of ?_ ?_); (· first | assumption | exact decide_eq_true (by omega) | exact mkOK_of (by decide) | decide +kernel | (refine decide_eq_true ?_; simp (disch := omega) only [i64w]; omega)); conv => whnf)
    | ((with_reducible refine condm_pos ?_ ?_); (· assumption); conv => whnf)
    | ((with_reducible refine condm_neg ?_ ?_); (· assumption); conv => whnf)
    | ((with_reducible refine forceL_fv (by assumption) ?_); conv => whnf)
    | ((with_reducible refine forceL_rfv (by assumption) ?_); conv => whnf)
    | ((with_reducible refine forceNm_of ?_); conv => whnf)
    | ((with_reducible refine needm_of (fv_lenL (by assumption) (by assumption)) ?_); conv => whnf)
    | ((with_reducible refine optm_var (fv_strL (by assumption) (by assumption)) (fun s hs => ?_)); conv => whnf)
    | ((with_reducible refine forceA_of ?_); conv => whnf)
    | fail)
  refine needm_of (by rw [hzs]; simp [s5]; omega) ?_
  conv => whnf
  refine forceL_to (l' := u8s (fillP n 0)) (by rw [hp0, ← storeL_one, hzs]; simp) ?_
  conv => whnf
  refine loopx_of (fun m F H => ∃ i : Nat, i ≤ 8 ∧ m = 8 - i ∧ F = [(0, .a (.int .u64 n)), (3, .a (.int .i64 L)), (4, .a (.slc 0 0 L L)), (15, .a (.int .i64 i))] ∧ H = [.cells (u8s (fillP n i)) 5 false]) 8 ?_ ?_
  · refine Into.weak [0] _ _ ⟨0, by omega, rfl, rfl, rfl⟩ ⟨rfl, rfl, rfl, rfl, trivial⟩ ⟨?_, trivial⟩ ?_
    · simp [Ob.ren, dsOf]
    · simp [nodupb, baseb, Ob.okb, frmOk, V.okb, A.okb]
  · rintro m F H ⟨i, hi, rfl, rfl, rfl⟩
    conv => whnf
    refine condm_of (fun h => ?_) (fun h => ?_)
    · have hi8 : i < 8 := by have := of_decide_eq_true h; omega
      have e1 : IntKind.i64.wrap (IntKind.i64.wrap (↑L - 1) - ↑i) = ((L - 1 - i : Nat) : Int) := by
        rw [i64w (x := (L : Int) - 1) (by omega) (by omega), i64w (by omega) (by omega)]; omega
      have e2 : IntKind.i64.wrap (8 * ↑i) = ((8 * i : Nat) : Int) := by rw [i64w (by omega) (by omega)]; omega
      have e3 : (((8 * n % 18446744073709551616 : Nat) : Int).fdiv (2 ^ min ((8 * i : Nat) : Int).toNat IntKind.u64.bits)) = ((8 * n % 18446744073709551616 / 2 ^ (8 * i) : Nat) : Int) := by
        have : min (((8 * i : Nat) : Int).toNat) IntKind.u64.bits = 8 * i := by
          rw [Int.toNat_natCast]
          show min (8 * i) 64 = 8 * i
          omega
        rw [this, show (2 : Int) ^ (8 * i) = ((2 ^ (8 * i) : Nat) : Int) by simp, fdivN]
      conv => whnf
      rw [e1, e2]
      repeat' (first
        | ((with_reducible refine regx_of ?_ ?_); (· decide +kernel); conv => whnf)
        | ((with_reducible refine growx_pre ?_ ?_); (· exact ⟨_, rfl⟩); conv => whnf)
        | ((with_reducible refine needm_of ?_ ?_); (· first | assumption | exact decide_eq_true (by omega) | exact mkOK_of (by decide) | decide +kernel | (refine decide_eq_true ?_; simp (disch := omega) only [i64w]; omega)); conv => whnf)
        | ((with_reducible refine condm_pos ?_ ?_); (· assumption); conv => whnf)
        | ((with_reducible refine condm_neg ?_ ?_); (· assumption); conv => whnf)
        | ((with_reducible refine forceL_fv (by assumption) ?_); conv => whnf)
        | ((with_reducible refine forceL_rfv (by assumption) ?_); conv => whnf)
        | ((with_reducible refine forceNm_of ?_); conv => whnf)
        | ((with_reducible refine needm_of (fv_lenL (by assumption) (by assumption)) ?_); conv => whnf)
        | ((with_reducible refine optm_var (fv_strL (by assumption) (by assumption)) (fun s hs => ?_)); conv => whnf)
        | ((with_reducible refine forceA_of ?_); conv => whnf)
        | fail)
      rw [e8, e3, wrap8, b8_ofNat]
      refine needm_of (by simp [fillP_length hi, s5]; omega) ?_
      conv => whnf
      refine forceL_to (l' := u8s (fillP n (i + 1))) (by rw [storeL_one, ← fillP_set hi8]; congr 2; rw [s5]; omega) ?_
      conv => whnf
      refine ⟨8 - (i + 1), by omega, Into.weak [0] _ _ ⟨i + 1, by omega, rfl, rfl, rfl⟩ ⟨rfl, rfl, rfl, ?_, trivial⟩ ⟨?_, trivial⟩ ?_⟩
      · rw [i64w (by omega) (by omega)]; rfl
      · simp [Ob.ren, dsOf]
      · simp [nodupb, baseb, Ob.okb, frmOk, V.okb, A.okb]
    · conv => whnf
      have : i = 8 := by have := of_decide_eq_false h; omega
      subst this
      rw [fillP_8]
      exact keepOf [.cells (u8s (fillS n)) 5 false] [0] rfl ⟨by simp [Ob.ren, dsOf], trivial⟩ (by simp [nodupb, baseb, Ob.okb, frmOk, V.okb, A.okb]) hk
@[irreducible] def fillQ (k : Nat) : List UInt8 := 128 :: List.replicate k 0
theorem fillQ_length (k : Nat) : (fillQ k).length = k + 1 := by simp [fillQ]
theorem fillQ_succ (k : Nat) : fillQ k ++ [0] = fillQ (k + 1) := by simp [fillQ, List.replicate_succ']
@[irreducible] def fillR (z X i : Nat) : List UInt8 := fillQ z ++ (be8 X).take i
theorem fillR_0 (z X : Nat) : fillR z X 0 = fillQ z := by simp [fillR]
theorem fillR_8 (n : Nat) : fillR (63 - (n + 8) % 64) (8 * n % 18446744073709551616) 8 = fillS n := by
  unfold fillR fillS fillQ
  rw [List.take_of_length_le (by rw [be8_length]; omega)]
  rfl
theorem fillR_length {z X i : Nat} (h : i ≤ 8) : (fillR z X i).length = z + 1 + i := by
  unfold fillR
  rw [List.length_append, fillQ_length, List.length_take, be8_length]
  omega
theorem fillR_succ {z X i : Nat} (h : i < 8) : fillR z X i ++ [UInt8.ofNat (X / 2 ^ (56 - 8 * i))] = fillR z X (i + 1) := by
  unfold fillR
  rw [List.append_assoc]
  congr 1
  rw [List.take_add_one, List.getElem?_eq_getElem (by rw [be8_length]; omega)]
  congr 1
  simp [be8]
set_option maxHeartbeats 0 in
theorem fill12 (n : Nat) {K : V → Hp → Prop} (hk : ∀ x cs len cap, cs = u8s (fillS n ++ x) → len = (fillS n).length → cap = len + x.length → K (.a (.slc 0 0 len cap)) [.cells cs 5 false]) :
    Go.Eng.Fn Try.prog ro 12 [.a (.int .u64 n)] [] K := by
  refine Go.Eng.Fn.weak ?_
  refine Go.Eng.Fn.of_code (gOf []) Try.func12 rfl (Nat.le_of_ble_eq_true rfl) ?_
  conv => whnf
  refine loopx_of (fun m F H => ∃ (k : Nat) (x : List UInt8) (cs : List A) (len cap : Nat), k ≤ 63 - (n + 8) % 64 ∧ m = 64 - k ∧ cs = u8s (fillQ k ++ x) ∧ len = (fillQ k).length ∧ cap = len + x.length ∧ F = [(0, .a (.int .u64 n)), (3, .a (.slc 0 0 len cap))] ∧ H = [.cells cs 5 false]) 64 ?_ ?_
  · refine Into.weak [0] _ _ ⟨0, [], [.int .u8 128], _, _, by omega, rfl, ?_, ?_, ?_, rfl, rfl⟩ ⟨rfl, rfl, trivial⟩ ⟨rfl, trivial⟩ rfl
    · simp [fillQ]
    · rw [fillQ_length]
    · rfl
  · rintro m F H ⟨k, x, cs, len, cap, hk1, rfl, hcs, hlen, hcap, rfl, rfl⟩
    rw [fillQ_length] at hlen
    conv => whnf
    have e1 : (IntKind.u64.wrap (IntKind.u64.wrap ((n : Int).tmod 64 + IntKind.u64.wrap (len : Int)) + 8)).tmod 64 = (((n % 64 + (k + 1) + 8) % 64 : Nat) : Int) := by
      rw [hlen, u64w, show (n : Int).tmod 64 = ((n % 64 : Nat) : Int) from rfl, ← Int.natCast_add, u64w, show (8 : Int) = ((8 : Nat) : Int) from rfl, ← Int.natCast_add, u64w]
      rw [show (64 : Int) = ((64 : Nat) : Int) from rfl, tmodN]
      congr 1
      omega
    generalize (IntKind.u64.wrap (IntKind.u64.wrap ((n : Int).tmod 64 + IntKind.u64.wrap (len : Int)) + 8)).tmod 64 = q at *
    refine condm_of (fun h => ?_) (fun h => ?_)
    · conv => whnf
      repeat' (first
        | ((with_reducible refine regx_of ?_ ?_); (· decide +kernel); conv => whnf)
        | ((with_reducible refine growx_pre ?_ ?_); (· exact ⟨_, rfl⟩); conv => whnf)
        | ((with_reducible refine needm_of ?_ ?_); (· first | assumption | exact decide_eq_true (by omega) | exact mkOK_of (by decide) | decide +kernel | (refine decide_eq_true ?_; simp (disch := omega) only [i64w]; omega)); conv => whnf)
        | ((with_reducible refine condm_pos ?_ ?_); (· assumption); conv => whnf)
        | ((with_reducible refine condm_neg ?_ ?_); (· assumption); conv => whnf)
        | ((with_reducible refine forceL_fv (by assumption) ?_); conv => whnf)
        | ((with_reducible refine forceL_rfv (by assumption) ?_); conv => whnf)
        | ((with_reducible refine forceNm_of ?_); conv => whnf)
        | ((with_reducible refine needm_of (fv_lenL (by assumption) (by assumption)) ?_); conv => whnf)
        | ((with_reducible refine optm_var (fv_strL (by assumption) (by assumption)) (fun s hs => ?_)); conv => whnf)
        | ((with_reducible refine forceA_of ?_); conv => whnf)
        | fail)
      refine condm_of (fun hc => ?_) (fun hc => ?_)
      · have hc' := of_decide_eq_true hc
        refine needm_of (decide_eq_true (by rw [s5, hcs, u8s_length, List.length_append, fillQ_length]; simp only [List.length_drop, List.length_take, List.length_cons, List.length_nil]; omega)) ?_
        conv => whnf
        refine forceL_var (app_in (b := 0) hcs (by rw [fillQ_length]; exact hlen) s5 (by rw [List.length_append, fillQ_length]; omega) rfl) (fun cs' hcs' => ?_)
        rw [fillQ_succ] at hcs'
        repeat' (first
          | ((with_reducible refine regx_of ?_ ?_); (· decide +kernel); conv => whnf)
          | ((with_reducible refine growx_pre ?_ ?_); (· exact ⟨_, rfl⟩); conv => whnf)
          | ((with_reducible refine needm_of ?_ ?_); (· first | assumption | exact decide_eq_true (by omega) | exact mkOK_of (by decide) | decide +kernel | (refine decide_eq_true ?_; simp (disch := omega) only [i64w]; omega)); conv => whnf)
          | ((with_reducible refine condm_pos ?_ ?_); (· assumption); conv => whnf)
          | ((with_reducible refine condm_neg ?_ ?_); (· assumption); conv => whnf)
          | ((with_reducible refine forceL_fv (by assumption) ?_); conv => whnf)
          | ((with_reducible refine forceL_rfv (by assumption) ?_); conv => whnf)
          | ((with_reducible refine forceNm_of ?_); conv => whnf)
          | ((with_reducible refine needm_of (fv_lenL (by assumption) (by assumption)) ?_); conv => whnf)
          | ((with_reducible refine optm_var (fv_strL (by assumption) (by assumption)) (fun s hs => ?_)); conv => whnf)
          | ((with_reducible refine forceA_of ?_); conv => whnf)
          | fail)
        refine ⟨64 - (k + 1), by omega, Into.weak [0] _ _ ⟨k + 1, x.tail, _, _, _, ?_, rfl, hcs', ?_, ?_, rfl, rfl⟩ ⟨rfl, rfl, trivial⟩ ⟨ren_fv hcs' _ _ _, trivial⟩ ?_⟩
        · simp at h; omega
        · rw [fillQ_length]; omega
        · rw [List.length_tail]; omega
        · simp [nodupb, baseb, Ob.okb, frmOk, V.okb, A.okb, all_fv hcs']
      · have hc' := of_decide_eq_false hc
        conv => whnf
        refine needm_of (decide_eq_true (by rw [s5, hcs, u8s_length, List.length_append, fillQ_length]; exact ⟨by omega, by show (_ : Nat) * 1 ≤ _; omega, by omega⟩)) ?_
        intro cap' hcap'
        conv => whnf
        repeat' (first
          | ((with_reducible refine regx_of ?_ ?_); (· decide +kernel); conv => whnf)
          | ((with_reducible refine growx_pre ?_ ?_); (· exact ⟨_, rfl⟩); conv => whnf)
          | ((with_reducible refine needm_of ?_ ?_); (· first | assumption | exact decide_eq_true (by omega) | exact mkOK_of (by decide) | decide +kernel | (refine decide_eq_true ?_; simp (disch := omega) only [i64w]; omega)); conv => whnf)
          | ((with_reducible refine condm_pos ?_ ?_); (· assumption); conv => whnf)
          | ((with_reducible refine condm_neg ?_ ?_); (· assumption); conv => whnf)
          | ((with_reducible refine forceL_fv (by assumption) ?_); conv => whnf)
          | ((with_reducible refine forceL_rfv (by assumption) ?_); conv => whnf)
          | ((with_reducible refine forceNm_of ?_); conv => whnf)
          | ((with_reducible refine needm_of (fv_lenL (by assumption) (by assumption)) ?_); conv => whnf)
          | ((with_reducible refine optm_var (fv_strL (by assumption) (by assumption)) (fun s hs => ?_)); conv => whnf)
          | ((with_reducible refine forceA_of ?_); conv => whnf)
          | fail)
        refine forceL_var (app_new (b := 0) hcs (by rw [fillQ_length]; exact hlen) s5 rfl rfl) (fun cs' hcs' => ?_)
        rw [fillQ_succ] at hcs'
        repeat' (first
          | ((with_reducible refine regx_of ?_ ?_); (· decide +kernel); conv => whnf)
          | ((with_reducible refine growx_pre ?_ ?_); (· exact ⟨_, rfl⟩); conv => whnf)
          | ((with_reducible refine needm_of ?_ ?_); (· first | assumption | exact decide_eq_true (by omega) | exact mkOK_of (by decide) | decide +kernel | (refine decide_eq_true ?_; simp (disch := omega) only [i64w]; omega)); conv => whnf)
          | ((with_reducible refine condm_pos ?_ ?_); (· assumption); conv => whnf)
          | ((with_reducible refine condm_neg ?_ ?_); (· assumption); conv => whnf)
          | ((with_reducible refine forceL_fv (by assumption) ?_); conv => whnf)
          | ((with_reducible refine forceL_rfv (by assumption) ?_); conv => whnf)
          | ((with_reducible refine forceNm_of ?_); conv => whnf)
          | ((with_reducible refine needm_of (fv_lenL (by assumption) (by assumption)) ?_); conv => whnf)
          | ((with_reducible refine optm_var (fv_strL (by assumption) (by assumption)) (fun s hs => ?_)); conv => whnf)
          | ((with_reducible refine forceA_of ?_); conv => whnf)
          | fail)
        refine ⟨64 - (k + 1), by omega, Into.weak [2] _ _ ⟨k + 1, List.replicate (cap' - (len + 1)) 0, cs', _, _, ?_, rfl, hcs', ?_, ?_, rfl, rfl⟩ ⟨rfl, rfl, trivial⟩ ⟨ren_fv hcs' _ _ _, trivial⟩ ?_⟩
        · simp at h; omega
        · rw [fillQ_length]; omega
        · rw [List.length_replicate]; omega
        · simp [nodupb, baseb, Ob.okb, frmOk, V.okb, A.okb, all_fv hcs']
    · have hk2 : k = 63 - (n + 8) % 64 := by simp at h; omega
      have e8 : IntKind.u64.wrap (8 * ↑n) = ((8 * n % 18446744073709551616 : Nat) : Int) := u64w (8 * n)
      clear h e1
      rw [← fillR_8] at hk
      have hz : 63 - (n + 8) % 64 ≤ 63 := by omega
      conv => whnf
      rw [e8]
      clear e8
      generalize 8 * n % 18446744073709551616 = X at *
      generalize 63 - (n + 8) % 64 = z at *
      refine loopx_of (fun m F H => ∃ (i : Nat) (x : List UInt8) (cs : List A) (len cap : Nat), i ≤ 8 ∧ m = 8 - i ∧ cs = u8s (fillR z X i ++ x) ∧ len = z + 1 + i ∧ cap = len + x.length ∧ F = [(3, .a (.slc 0 0 len cap)), (4, .a (.int .u64 X)), (5, .a (.int .i64 i))] ∧ H = [.cells cs 5 false]) 8 ?_ ?_
      · refine Into.weak [0] _ _ ⟨0, x, cs, len, cap, by omega, rfl, ?_, ?_, hcap, rfl, rfl⟩ ⟨rfl, rfl, rfl, trivial⟩ ⟨ren_fv hcs _ _ _, trivial⟩ ?_
        · rw [fillR_0, ← hk2]; exact hcs
        · omega
        · simp [nodupb, baseb, Ob.okb, frmOk, V.okb, A.okb, all_fv hcs]
      · clear hk1 hk2 hcs hlen hcap x k cs len cap
        rintro m F H ⟨i, x, cs, len, cap, hi, rfl, hcs, hlen, hcap, rfl, rfl⟩
        conv => whnf
        refine condm_of (fun h => ?_) (fun h => ?_)
        · have hi8 : i < 8 := by have := of_decide_eq_true h; omega
          have e2 : IntKind.i64.wrap (56 - IntKind.i64.wrap (8 * ↑i)) = ((56 - 8 * i : Nat) : Int) := by
            rw [i64w (x := 8 * (i : Int)) (by omega) (by omega), i64w (by omega) (by omega)]; omega
          have e3 : IntKind.u8.wrap (((X : Int).fdiv (2 ^ min ((56 - 8 * i : Nat) : Int).toNat IntKind.u64.bits))) = ((UInt8.ofNat (X / 2 ^ (56 - 8 * i))).toNat : Int) := by
            have : min (((56 - 8 * i : Nat) : Int).toNat) IntKind.u64.bits = 56 - 8 * i := by
              rw [Int.toNat_natCast]
              show min (56 - 8 * i) 64 = 56 - 8 * i
              omega
            rw [this, show (2 : Int) ^ (56 - 8 * i) = ((2 ^ (56 - 8 * i) : Nat) : Int) by simp, fdivN, wrap8, b8_ofNat]
          have e4 : IntKind.i64.wrap (↑i + 1) = ((i + 1 : Nat) : Int) := by rw [i64w (by omega) (by omega)]; rfl
          have hsc := fillR_succ (z := z) (X := X) hi8
          generalize UInt8.ofNat (X / 2 ^ (56 - 8 * i)) = b at *
          conv => whnf
          rw [e2]
          repeat' (first
            | ((with_reducible refine regx_of ?_ ?_); (· decide +kernel); conv => whnf)
            | ((with_reducible refine growx_pre ?_ ?_); (· exact ⟨_, rfl⟩); conv => whnf)
            | ((with_reducible refine needm_of ?_ ?_); (· first | assumption | exact decide_eq_true (by omega) | exact mkOK_of (by decide) | decide +kernel | (refine decide_eq_true ?_; simp (disch := omega) only [i64w]; omega)); conv => whnf)
            | ((with_reducible refine condm_pos ?_ ?_); (· assumption); conv => whnf)
            | ((with_reducible refine condm_neg ?_ ?_); (· assumption); conv => whnf)
            | ((with_reducible refine forceL_fv (by assumption) ?_); conv => whnf)
            | ((with_reducible refine forceL_rfv (by assumption) ?_); conv => whnf)
            | ((with_reducible refine forceNm_of ?_); conv => whnf)
            | ((with_reducible refine needm_of (fv_lenL (by assumption) (by assumption)) ?_); conv => whnf)
            | ((with_reducible refine optm_var (fv_strL (by assumption) (by assumption)) (fun s hs => ?_)); conv => whnf)
            | ((with_reducible refine forceA_of ?_); conv => whnf)
            | fail)
          generalize IntKind.u8.wrap (((X : Int).fdiv (2 ^ min ((56 - 8 * i : Nat) : Int).toNat IntKind.u64.bits))) = v at *
          repeat' (first
            | ((with_reducible refine regx_of ?_ ?_); (· decide +kernel); conv => whnf)
            | ((with_reducible refine growx_pre ?_ ?_); (· exact ⟨_, rfl⟩); conv => whnf)
            | ((with_reducible refine needm_of ?_ ?_); (· first | assumption | exact decide_eq_true (by omega) | exact mkOK_of (by decide) | decide +kernel | (refine decide_eq_true ?_; simp (disch := omega) only [i64w]; omega)); conv => whnf)
            | ((with_reducible refine condm_pos ?_ ?_); (· assumption); conv => whnf)
            | ((with_reducible refine condm_neg ?_ ?_); (· assumption); conv => whnf)
            | ((with_reducible refine forceL_fv (by assumption) ?_); conv => whnf)
            | ((with_reducible refine forceL_rfv (by assumption) ?_); conv => whnf)
            | ((with_reducible refine forceNm_of ?_); conv => whnf)
            | ((with_reducible refine needm_of (fv_lenL (by assumption) (by assumption)) ?_); conv => whnf)
            | ((with_reducible refine optm_var (fv_strL (by assumption) (by assumption)) (fun s hs => ?_)); conv => whnf)
            | ((with_reducible refine forceA_of ?_); conv => whnf)
            | fail)
          refine condm_of (fun hc => ?_) (fun hc => ?_)
          · have hc' := of_decide_eq_true hc
            refine needm_of (decide_eq_true (by rw [s5, hcs, u8s_length, List.length_append, fillR_length hi]; simp only [List.length_drop, List.length_take, List.length_cons, List.length_nil]; omega)) ?_
            conv => whnf
            refine forceL_var (app_in (b := b) hcs (by rw [fillR_length hi]; exact hlen) s5 (by rw [List.length_append, fillR_length hi]; omega) e3) (fun cs' hcs' => ?_)
            rw [hsc] at hcs'
            repeat' (first
              | ((with_reducible refine regx_of ?_ ?_); (· decide +kernel); conv => whnf)
              | ((with_reducible refine growx_pre ?_ ?_); (· exact ⟨_, rfl⟩); conv => whnf)
              | ((with_reducible refine needm_of ?_ ?_); (· first | assumption | exact decide_eq_true (by omega) | exact mkOK_of (by decide) | decide +kernel | (refine decide_eq_true ?_; simp (disch := omega) only [i64w]; omega)); conv => whnf)
              | ((with_reducible refine condm_pos ?_ ?_); (· assumption); conv => whnf)
              | ((with_reducible refine condm_neg ?_ ?_); (· assumption); conv => whnf)
              | ((with_reducible refine forceL_fv (by assumption) ?_); conv => whnf)
              | ((with_reducible refine forceL_rfv (by assumption) ?_); conv => whnf)
              | ((with_reducible refine forceNm_of ?_); conv => whnf)
              | ((with_reducible refine needm_of (fv_lenL (by assumption) (by assumption)) ?_); conv => whnf)
              | ((with_reducible refine optm_var (fv_strL (by assumption) (by assumption)) (fun s hs => ?_)); conv => whnf)
              | ((with_reducible refine forceA_of ?_); conv => whnf)
              | fail)
            refine ⟨8 - (i + 1), by omega, Into.weak [0] _ _ ⟨i + 1, x.tail, cs', _, _, by omega, rfl, hcs', ?_, ?_, rfl, rfl⟩ ⟨rfl, rfl, congrArg (fun z => some (V.a (.int .i64 z))) e4, trivial⟩ ⟨ren_fv hcs' _ _ _, trivial⟩ ?_⟩
            · omega
            · rw [List.length_tail]; omega
            · simp [nodupb, baseb, Ob.okb, frmOk, V.okb, A.okb, all_fv hcs']
          · have hc' := of_decide_eq_false hc
            conv => whnf
            refine needm_of (decide_eq_true (by rw [s5, hcs, u8s_length, List.length_append, fillR_length hi]; exact ⟨by omega, by show (_ : Nat) * 1 ≤ _; omega, by omega⟩)) ?_
            intro cap' hcap'
            conv => whnf
            repeat' (first
              | ((with_reducible refine regx_of ?_ ?_); (· decide +kernel); conv => whnf)
              | ((with_reducible refine growx_pre ?_ ?_); (· exact ⟨_, rfl⟩); conv => whnf)
              | ((with_reducible refine needm_of ?_ ?_); (· first | assumption | exact decide_eq_true (by omega) | exact mkOK_of (by decide) | decide +kernel | (refine decide_eq_true ?_; simp (disch := omega) only [i64w]; omega)); conv => whnf)
              | ((with_reducible refine condm_pos ?_ ?_); (· assumption); conv => whnf)
              | ((with_reducible refine condm_neg ?_ ?_); (· assumption); conv => whnf)
              | ((with_reducible refine forceL_fv (by assumption) ?_); conv => whnf)
              | ((with_reducible refine forceL_rfv (by assumption) ?_); conv => whnf)
              | ((with_reducible refine forceNm_of ?_); conv => whnf)
              | ((with_reducible refine needm_of (fv_lenL (by assumption) (by assumption)) ?_); conv => whnf)
              | ((with_reducible refine optm_var (fv_strL (by assumption) (by assumption)) (fun s hs => ?_)); conv => whnf)
              | ((with_reducible refine forceA_of ?_); conv => whnf)
              | fail)
            refine forceL_var (app_new (b := b) hcs (by rw [fillR_length hi]; exact hlen) s5 rfl e3) (fun cs' hcs' => ?_)
            rw [hsc] at hcs'
            repeat' (first
              | ((with_reducible refine regx_of ?_ ?_); (· decide +kernel); conv => whnf)
              | ((with_reducible refine growx_pre ?_ ?_); (· exact ⟨_, rfl⟩); conv => whnf)
              | ((with_reducible refine needm_of ?_ ?_); (· first | assumption | exact decide_eq_true (by omega) | exact mkOK_of (by decide) | decide +kernel | (refine decide_eq_true ?_; simp (disch := omega) only [i64w]; omega)); conv => whnf)
              | ((with_reducible refine condm_pos ?_ ?_); (· assumption); conv => whnf)
              | ((with_reducible refine condm_neg ?_ ?_); (· assumption); conv => whnf)
              | ((with_reducible refine forceL_fv (by assumption) ?_); conv => whnf)
              | ((with_reducible refine forceL_rfv (by assumption) ?_); conv => whnf)
              | ((with_reducible refine forceNm_of ?_); conv => whnf)
              | ((with_reducible refine needm_of (fv_lenL (by assumption) (by assumption)) ?_); conv => whnf)
              | ((with_reducible refine optm_var (fv_strL (by assumption) (by assumption)) (fun s hs => ?_)); conv => whnf)
              | ((with_reducible refine forceA_of ?_); conv => whnf)
              | fail)
            refine ⟨8 - (i + 1), by omega, Into.weak [2] _ _ ⟨i + 1, List.replicate (cap' - (len + 1)) 0, cs', _, _, by omega, rfl, hcs', ?_, ?_, rfl, rfl⟩ ⟨rfl, rfl, congrArg (fun z => some (V.a (.int .i64 z))) e4, trivial⟩ ⟨ren_fv hcs' _ _ _, trivial⟩ ?_⟩
            · omega
            · rw [List.length_replicate]; omega
            · simp [nodupb, baseb, Ob.okb, frmOk, V.okb, A.okb, all_fv hcs']
        · have : i = 8 := by have := of_decide_eq_false h; omega
          subst this
          conv => whnf
          exact keepOf [.cells cs 5 false] [0] rfl ⟨ren_fv hcs _ _ _, trivial⟩ (by simp [nodupb, baseb, Ob.okb, frmOk, V.okb, A.okb, all_fv hcs]) (hk x cs len cap hcs (by rw [fillR_length (by omega)]; exact hlen) hcap)
end
end Go.Proofs.Ytglbldhineggaaa.DG
