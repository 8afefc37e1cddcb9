import Derived.Test.YtimddbgnaeeggaaDoorKB
import Derived.Test.YtimddbgnaeeggaaDoorKT
namespace Go.Proofs.YtimddbgnaeeggaaDoor.KD
open Go.Eng
set_option maxRecDepth 100000
section
variable {ro : Addr → A → Prop}
set_option maxHeartbeats 400000 in
theorem newWriter {K : V → Hp → Prop} (hK : K (.a (.ptr 0 0)) [.cells [.nils] 146 false]) : Go.Eng.Fn Tryd.prog ro 76 [] [] K := by
  refine Fn.weak ?_
  refine Fn.of_code (gOf []) Tryd.func76 rfl (Nat.le_of_ble_eq_true rfl) ?_
  conv => whnf
  skip
  exact keepOf (v₀ := .a (.ptr 0 0)) [.cells [.nils] 146 false] [0] rfl ⟨rfl, trivial⟩ rfl hK
set_option maxHeartbeats 400000 in
theorem wbyte0 (b : UInt8) {K : V → Hp → Prop} (hK : ∀ cs x cap, cs = u8s ([b] ++ x) → cap = 1 + x.length → K (.t []) [.cells [.slc 1 0 1 cap] 146 false, .cells cs 5 false]) :
    Go.Eng.Fn Tryd.prog ro 77 [.a (.ptr 0 0), .a (.int .u8 (b.toNat : Int))] [.cells [.nils] 146 false] K := by
  refine Fn.weak ?_
  refine Fn.of 1 (gOf []) rfl Tryd.func77 rfl (Nat.le_of_ble_eq_true rfl) ?_
  conv => whnf
  skip
  intro cap hcap
  conv => whnf
  refine y'f (l' := u8s (List.replicate (cap - 1) 0)) (by rw [s5, Nat.mul_one, repl_u8]; simp) (fun ys hys => ?_)
  obtain ⟨cs, hcs⟩ : ∃ cs : List A, cs = A.int .u8 (b.toNat : Int) :: ys := ⟨_, rfl⟩
  rw [← hcs]
  replace hcs : cs = u8s ([b] ++ List.replicate (cap - 1) 0) := by rw [hcs, hys]; simp
  conv => whnf
  repeat' ((first | (with_reducible refine y'1 ‹_› ?_) | fail) <;> (conv => whnf))
  exact keepOf (v₀ := .t []) [.cells [.slc 1 0 1 cap] 146 false, .cells cs 5 false] [0, 2] rfl ⟨rfl, ren_fv hcs _ _ _, trivial⟩ (by simp [nodupb, baseb, Ob.okb, frmOk, V.okb, A.okb, all_fv hcs] <;> decide) (hK cs _ cap hcs (by rw [List.length_replicate]; omega))
set_option maxHeartbeats 400000 in
theorem wbyte (b : UInt8) (L x : List UInt8) (cs : List A) (len cap : Nat) (mk : Bool) (hcs : cs = u8s (L ++ x)) (hl : len = L.length) (hc : cap = len + x.length) (hL : L.length ≤ 1000000) {K : V → Hp → Prop}
    (hK : ∀ H, WOut (L ++ [b]) H → K (.t []) H) :
    Go.Eng.Fn Tryd.prog ro 77 [.a (.ptr 0 0), .a (.int .u8 (b.toNat : Int))] [.cells [.slc 1 0 len cap] 146 false, .cells cs 5 mk] K := by
  have hcl : cs.length = cap := by rw [hcs, u8s_length, List.length_append]; omega
  refine Fn.weak ?_
  refine Fn.of 2 (gOf []) rfl Tryd.func77 rfl (Nat.le_of_ble_eq_true rfl) ?_
  conv => whnf
  repeat' ((first | (with_reducible refine y'1 ‹_› ?_) | fail) <;> (conv => whnf))
  refine y'c (fun h => ?_) (fun h => ?_)
  · have h' := of_decide_eq_true h
    conv => whnf
    refine y'n (decide_eq_true (by simp [s5]; omega)) ?_
    conv => whnf
    refine y'f (app_in hcs hl s5 (by rw [List.length_append]; omega) (b := b) rfl) (fun cs2 hcs2 => ?_)
    conv => whnf
    repeat' ((first | (with_reducible refine y'1 ‹_› ?_) | fail) <;> (conv => whnf))
    exact keepOf (v₀ := .t []) [.cells [.slc 1 0 (len + 1) cap] 146 false, .cells cs2 5 mk] [0, 1] rfl ⟨rfl, ren_fv hcs2 _ _ _, trivial⟩ (by simp [nodupb, baseb, Ob.okb, frmOk, V.okb, A.okb, all_fv hcs2] <;> decide) (hK _ (.here cs2 x.tail (len + 1) cap mk rfl hcs2 (by simp [hl]) (by rw [List.length_tail]; omega)))
  · have h' := of_decide_eq_false h
    conv => whnf
    refine y'n (decide_eq_true (by simp [s5, b5]; omega)) ?_
    intro cap' hcap'
    conv => whnf
    repeat' ((first | (with_reducible refine y'1 ‹_› ?_) | fail) <;> (conv => whnf))
    refine y'f (app_new (c := cap') hcs hl s5 rfl (b := b) rfl) (fun cs2 hcs2 => ?_)
    conv => whnf
    repeat' ((first | (with_reducible refine y'1 ‹_› ?_) | fail) <;> (conv => whnf))
    exact keepOf (v₀ := .t []) [.cells [.slc 2 0 (len + 1) cap'] 146 false, .cells cs 5 mk, .cells cs2 5 false] [0, 1, 3] rfl ⟨rfl, ren_fv hcs _ _ _, ren_fv hcs2 _ _ _, trivial⟩ (by simp [nodupb, baseb, Ob.okb, frmOk, V.okb, A.okb, all_fv hcs, all_fv hcs2] <;> decide) (hK _ (.moved cs2 cs _ (L ++ x) (len + 1) cap' false mk rfl hcs2 hcs (by simp [hl]) (by rw [List.length_replicate]; omega)))
theorem mul8 {k : Nat} (hk : k ≤ 8) : IntKind.i64.wrap (8 * (k : Int)) = ((8 * k : Nat) : Int) := by rw [i64w (by omega) (by omega)]; omega
theorem shr8 {v k : Nat} (hk : k ≤ 8) : (v : Int).fdiv (2 ^ min ((8 * k : Nat) : Int).toNat IntKind.u64.bits) = ((v / 256 ^ k : Nat) : Int) := by
  have : min (((8 * k : Nat) : Int).toNat) IntKind.u64.bits = 8 * k := by
    rw [Int.toNat_natCast]
    show min (8 * k) 64 = 8 * k
    omega
  rw [this, show (2 : Int) ^ (8 * k) = ((2 ^ (8 * k) : Nat) : Int) by simp, fdivN, Nat.pow_mul]
set_option maxHeartbeats 1000000 in
theorem wfixed (v n : Nat) (h1 : 1 ≤ n) (h8 : n ≤ 8) (hv : v < 256 ^ n) (L x : List UInt8) (cs : List A) (len cap : Nat) (mk : Bool) (hcs : cs = u8s (L ++ x)) (hl : len = L.length) (hc : cap = len + x.length) (hL : L.length ≤ 1000000) {K : V → Hp → Prop}
    (hK : ∀ H, WOut (L ++ be n v) H → K (.a (.int .i64 0)) H) :
    Go.Eng.Fn Tryd.prog ro 92 [.a (.ptr 0 0), .a (.int .u64 (v : Int)), .a (.int .i64 (n : Int))] [.cells [.slc 1 0 len cap] 146 false, .cells cs 5 mk] K := by
  have c1 : decide ((n : Int) < 1) = false := decide_eq_false (by omega)
  have c2 : decide ((n : Int) > 8) = false := decide_eq_false (by omega)
  have hv0 : v / 256 ^ n = 0 := Nat.div_eq_of_lt hv
  have c3 : (decide ((n : Int) < 8) = false) ∨ (decide ((n : Int) < 8) = true ∧ ((((v / 256 ^ n : Nat) : Int) != 0) = false)) := by
    by_cases h : n < 8
    · exact .inr ⟨decide_eq_true (by omega), by rw [hv0]; rfl⟩
    · exact .inl (decide_eq_false (by omega))
  have e0 : IntKind.i64.wrap ((n : Int) - 1) = (n : Int) - 1 := i64w (by omega) (by omega)
  refine Fn.weak ?_
  refine Fn.of 2 h92 rfl Tryd.func92 rfl (Nat.le_of_ble_eq_true rfl) ?_
  conv => whnf
  repeat' ((first | (with_reducible refine y'b ‹_› ?_) | fail) <;> (conv => whnf))
  rcases c3 with c3 | ⟨c3, c4⟩
  ·
    conv => whnf
    repeat' ((first | (with_reducible refine y'b ‹_› ?_) | fail) <;> (conv => whnf))
    rw [e0]
    conv => whnf
    skip
    refine loopx_of (fun r F H => ∃ pre : List UInt8, r ≤ n ∧ pre ++ be r v = be n v ∧ WOut (L ++ pre) H ∧ F = [(0, .a (.ptr 0 0)), (1, .a (.int .u64 (v : Int))), (2, .a (.int .i64 ((r : Int) - 1)))]) n ?_ ?_
    · exact Into.weak [0, 1] [(0, .a (.ptr 0 0)), (1, .a (.int .u64 (v : Int))), (2, .a (.int .i64 ((n : Int) - 1)))] [.cells [.slc 1 0 len cap] 146 false, .cells cs 5 mk] ⟨[], Nat.le_refl _, rfl, .here cs x len cap mk rfl (by rw [hcs, List.append_nil]) (by rw [List.append_nil]; exact hl) hc, rfl⟩ ⟨rfl, rfl, rfl, trivial⟩ ⟨rfl, ren_fv hcs _ _ _, trivial⟩ (by simp [nodupb, baseb, Ob.okb, frmOk, V.okb, A.okb, all_fv hcs] <;> decide)
    · rintro r F H ⟨pre, hr, hpre, hW, rfl⟩
      have hpl : pre.length + r = n := by have := congrArg List.length hpre; rw [List.length_append, be_length, be_length] at this; exact this
      cases r with
      | zero =>
        rw [be_0, List.append_nil] at hpre
        rw [hpre] at hW
        have hk := hK _ hW
        have c9 : decide (((0 : Nat) : Int) - 1 ≥ 0) = false := by decide
        rcases hW with ⟨cs2, x2, len2, cap2, mk2, rfl, hcs2, hl2, hc2⟩ | ⟨cs2, os, x2, M, len2, cap2, mk2, mo, rfl, hcs2, hos, hl2, hc2⟩
        ·
          conv => whnf
          skip
          exact keepOf (v₀ := .a (.int .i64 0)) [.cells [.slc 1 0 len2 cap2] 146 false, .cells cs2 5 mk2] [0, 1] rfl ⟨rfl, ren_fv hcs2 _ _ _, trivial⟩ (by simp [nodupb, baseb, Ob.okb, frmOk, V.okb, A.okb, all_fv hcs2] <;> decide) hk
        ·
          conv => whnf
          skip
          exact keepOf (v₀ := .a (.int .i64 0)) [.cells [.slc 2 0 len2 cap2] 146 false, .cells os 5 mo, .cells cs2 5 mk2] [0, 1, 2] rfl ⟨rfl, ren_fv hos _ _ _, ren_fv hcs2 _ _ _, trivial⟩ (by simp [nodupb, baseb, Ob.okb, frmOk, V.okb, A.okb, all_fv hos, all_fv hcs2] <;> decide) hk
      | succ r =>
        have ek : ((r + 1 : Nat) : Int) - 1 = (r : Int) := by omega
        have ek2 : IntKind.i64.wrap ((r : Int) - 1) = (r : Int) - 1 := i64w (by omega) (by omega)
        have c9 : decide ((r : Int) ≥ 0) = true := decide_eq_true (by omega)
        rw [be_s] at hpre
        have hpre' : (pre ++ [UInt8.ofNat (v / 256 ^ r)]) ++ be r v = be n v := by rw [← hpre]; simp
        rw [ek]
        have hbt : (((v / 256 ^ r : Nat) : Int)) = (v / 256 ^ r : Nat) := rfl
        obtain ⟨b, hb⟩ : ∃ b, b = UInt8.ofNat (v / 256 ^ r) := ⟨_, rfl⟩
        rw [← hb] at hpre'
        rcases hW with ⟨cs2, x2, len2, cap2, mk2, rfl, hcs2, hl2, hc2⟩ | ⟨cs2, os, x2, M, len2, cap2, mk2, mo, rfl, hcs2, hos, hl2, hc2⟩
        all_goals
          have hcl2 : cs2.length = cap2 := by rw [hcs2, u8s_length, List.length_append]; omega
          rw [List.length_append] at hl2
          conv => whnf
          repeat' ((first | ((with_reducible refine y'r ?_ ?_); (· decide +kernel)) | ((with_reducible refine y'g ?_ ?_); (· exact ⟨_, rfl⟩)) | (with_reducible refine y'1 ‹_› ?_) | ((with_reducible refine y'n ?_ ?_); (· first | assumption | exact decide_eq_true (by omega) | exact mkOK_of (by decide) | decide +kernel | (refine decide_eq_true ?_; simp (disch := omega) only [i64w]; omega))) | fail) <;> (conv => whnf))
          rw [mul8 (show r ≤ 8 by omega), shr8 (show r ≤ 8 by omega), wrap8, b8_ofNat, ← hb]
          conv => whnf
          skip
        all_goals
          refine y'c (fun h => ?_) (fun h => ?_)
        · have h' := of_decide_eq_true h
          conv => whnf
          refine y'n (decide_eq_true (by simp [s5]; omega)) ?_
          conv => whnf
          skip
          refine y'f (app_in hcs2 (by rw [List.length_append]; exact hl2) s5 (by rw [List.length_append, List.length_append]; omega) (b := b) rfl) (fun cs3 hcs3 => ?_)
          rw [List.append_assoc L pre [b]] at hcs3
          conv => whnf
          repeat' ((first | ((with_reducible refine y'g ?_ ?_); (· exact ⟨_, rfl⟩)) | (with_reducible refine y'1 ‹_› ?_) | fail) <;> (conv => whnf))
          exact ⟨r, by omega, Into.weak [0, 1] [(0, .a (.ptr 0 0)), (1, .a (.int .u64 (v : Int))), (2, .a (.int .i64 ((r : Int) - 1)))] [.cells [.slc 1 0 (len2 + 1) cap2] 146 false, .cells cs3 5 mk2] ⟨pre ++ [b], by omega, hpre', .here cs3 x2.tail _ cap2 mk2 rfl hcs3 (by rw [List.length_append, List.length_append, List.length_singleton]; omega) (by rw [List.length_tail]; omega), rfl⟩ ⟨rfl, rfl, congrArg (fun z => some (V.a (.int .i64 z))) ek2, trivial⟩ ⟨rfl, ren_fv hcs3 _ _ _, trivial⟩ (by simp [nodupb, baseb, Ob.okb, frmOk, V.okb, A.okb, all_fv hcs3] <;> decide)⟩
        · have h' := of_decide_eq_false h
          conv => whnf
          refine y'n (decide_eq_true (by simp [s5, b5]; omega)) ?_
          intro cap' hcap'
          conv => whnf
          repeat' ((first | (with_reducible refine y'1 ‹_› ?_) | fail) <;> (conv => whnf))
          refine y'f (app_new (c := cap') hcs2 (by rw [List.length_append]; exact hl2) s5 rfl (b := b) rfl) (fun cs3 hcs3 => ?_)
          rw [List.append_assoc L pre [b]] at hcs3
          conv => whnf
          repeat' ((first | ((with_reducible refine y'g ?_ ?_); (· exact ⟨_, rfl⟩)) | (with_reducible refine y'1 ‹_› ?_) | fail) <;> (conv => whnf))
          exact ⟨r, by omega, Into.weak [0, 1, 3] [(0, .a (.ptr 0 0)), (1, .a (.int .u64 (v : Int))), (2, .a (.int .i64 ((r : Int) - 1)))] [.cells [.slc 2 0 (len2 + 1) cap'] 146 false, .cells cs2 5 mk2, .cells cs3 5 false] ⟨pre ++ [b], by omega, hpre', .moved cs3 cs2 _ _ _ cap' false mk2 rfl hcs3 hcs2 (by rw [List.length_append, List.length_append, List.length_singleton]; omega) (by rw [List.length_replicate]; omega), rfl⟩ ⟨rfl, rfl, congrArg (fun z => some (V.a (.int .i64 z))) ek2, trivial⟩ ⟨rfl, ren_fv hcs2 _ _ _, ren_fv hcs3 _ _ _, trivial⟩ (by simp [nodupb, baseb, Ob.okb, frmOk, V.okb, A.okb, all_fv hcs2, all_fv hcs3] <;> decide)⟩
        · have h' := of_decide_eq_true h
          conv => whnf
          refine y'n (decide_eq_true (by simp [s5]; omega)) ?_
          conv => whnf
          repeat' ((first | (with_reducible refine y'1 ‹_› ?_) | fail) <;> (conv => whnf))
          refine y'f (app_in hcs2 (by rw [List.length_append]; exact hl2) s5 (by rw [List.length_append, List.length_append]; omega) (b := b) rfl) (fun cs3 hcs3 => ?_)
          rw [List.append_assoc L pre [b]] at hcs3
          conv => whnf
          repeat' ((first | ((with_reducible refine y'g ?_ ?_); (· exact ⟨_, rfl⟩)) | (with_reducible refine y'1 ‹_› ?_) | fail) <;> (conv => whnf))
          exact ⟨r, by omega, Into.weak [0, 1, 2] [(0, .a (.ptr 0 0)), (1, .a (.int .u64 (v : Int))), (2, .a (.int .i64 ((r : Int) - 1)))] [.cells [.slc 2 0 (len2 + 1) cap2] 146 false, .cells os 5 mo, .cells cs3 5 mk2] ⟨pre ++ [b], by omega, hpre', .moved cs3 os x2.tail M _ cap2 mk2 mo rfl hcs3 hos (by rw [List.length_append, List.length_append, List.length_singleton]; omega) (by rw [List.length_tail]; omega), rfl⟩ ⟨rfl, rfl, congrArg (fun z => some (V.a (.int .i64 z))) ek2, trivial⟩ ⟨rfl, ren_fv hos _ _ _, ren_fv hcs3 _ _ _, trivial⟩ (by simp [nodupb, baseb, Ob.okb, frmOk, V.okb, A.okb, all_fv hos, all_fv hcs3] <;> decide)⟩
        · have h' := of_decide_eq_false h
          conv => whnf
          refine y'n (decide_eq_true (by simp [s5, b5]; omega)) ?_
          intro cap' hcap'
          conv => whnf
          repeat' ((first | (with_reducible refine y'1 ‹_› ?_) | fail) <;> (conv => whnf))
          refine y'f (app_new (c := cap') hcs2 (by rw [List.length_append]; exact hl2) s5 rfl (b := b) rfl) (fun cs3 hcs3 => ?_)
          rw [List.append_assoc L pre [b]] at hcs3
          conv => whnf
          repeat' ((first | ((with_reducible refine y'g ?_ ?_); (· exact ⟨_, rfl⟩)) | (with_reducible refine y'1 ‹_› ?_) | fail) <;> (conv => whnf))
          exact ⟨r, by omega, Into.weak [0, 1, 4] [(0, .a (.ptr 0 0)), (1, .a (.int .u64 (v : Int))), (2, .a (.int .i64 ((r : Int) - 1)))] [.cells [.slc 2 0 (len2 + 1) cap'] 146 false, .cells os 5 mo, .cells cs3 5 false] ⟨pre ++ [b], by omega, hpre', .moved cs3 os _ M _ cap' false mo rfl hcs3 hos (by rw [List.length_append, List.length_append, List.length_singleton]; omega) (by rw [List.length_replicate]; omega), rfl⟩ ⟨rfl, rfl, congrArg (fun z => some (V.a (.int .i64 z))) ek2, trivial⟩ ⟨rfl, ren_fv hos _ _ _, ren_fv hcs3 _ _ _, trivial⟩ (by simp [nodupb, baseb, Ob.okb, frmOk, V.okb, A.okb, all_fv hos, all_fv hcs3] <;> decide)⟩
  ·
    conv => whnf
    repeat' ((first | (with_reducible refine y'b ‹_› ?_) | ((with_reducible refine y'n ?_ ?_); (· first | assumption | exact decide_eq_true (by omega) | exact mkOK_of (by decide) | decide +kernel | (refine decide_eq_true ?_; simp (disch := omega) only [i64w]; omega))) | fail) <;> (conv => whnf))
    rw [mul8 h8, shr8 h8]
    conv => whnf
    repeat' ((first | (with_reducible refine y'b ‹_› ?_) | fail) <;> (conv => whnf))
    rw [e0]
    conv => whnf
    skip
    refine loopx_of (fun r F H => ∃ pre : List UInt8, r ≤ n ∧ pre ++ be r v = be n v ∧ WOut (L ++ pre) H ∧ F = [(0, .a (.ptr 0 0)), (1, .a (.int .u64 (v : Int))), (2, .a (.int .i64 ((r : Int) - 1)))]) n ?_ ?_
    · exact Into.weak [0, 1] [(0, .a (.ptr 0 0)), (1, .a (.int .u64 (v : Int))), (2, .a (.int .i64 ((n : Int) - 1)))] [.cells [.slc 1 0 len cap] 146 false, .cells cs 5 mk] ⟨[], Nat.le_refl _, rfl, .here cs x len cap mk rfl (by rw [hcs, List.append_nil]) (by rw [List.append_nil]; exact hl) hc, rfl⟩ ⟨rfl, rfl, rfl, trivial⟩ ⟨rfl, ren_fv hcs _ _ _, trivial⟩ (by simp [nodupb, baseb, Ob.okb, frmOk, V.okb, A.okb, all_fv hcs] <;> decide)
    · rintro r F H ⟨pre, hr, hpre, hW, rfl⟩
      have hpl : pre.length + r = n := by have := congrArg List.length hpre; rw [List.length_append, be_length, be_length] at this; exact this
      cases r with
      | zero =>
        rw [be_0, List.append_nil] at hpre
        rw [hpre] at hW
        have hk := hK _ hW
        have c9 : decide (((0 : Nat) : Int) - 1 ≥ 0) = false := by decide
        rcases hW with ⟨cs2, x2, len2, cap2, mk2, rfl, hcs2, hl2, hc2⟩ | ⟨cs2, os, x2, M, len2, cap2, mk2, mo, rfl, hcs2, hos, hl2, hc2⟩
        ·
          conv => whnf
          skip
          exact keepOf (v₀ := .a (.int .i64 0)) [.cells [.slc 1 0 len2 cap2] 146 false, .cells cs2 5 mk2] [0, 1] rfl ⟨rfl, ren_fv hcs2 _ _ _, trivial⟩ (by simp [nodupb, baseb, Ob.okb, frmOk, V.okb, A.okb, all_fv hcs2] <;> decide) hk
        ·
          conv => whnf
          skip
          exact keepOf (v₀ := .a (.int .i64 0)) [.cells [.slc 2 0 len2 cap2] 146 false, .cells os 5 mo, .cells cs2 5 mk2] [0, 1, 2] rfl ⟨rfl, ren_fv hos _ _ _, ren_fv hcs2 _ _ _, trivial⟩ (by simp [nodupb, baseb, Ob.okb, frmOk, V.okb, A.okb, all_fv hos, all_fv hcs2] <;> decide) hk
      | succ r =>
        have ek : ((r + 1 : Nat) : Int) - 1 = (r : Int) := by omega
        have ek2 : IntKind.i64.wrap ((r : Int) - 1) = (r : Int) - 1 := i64w (by omega) (by omega)
        have c9 : decide ((r : Int) ≥ 0) = true := decide_eq_true (by omega)
        rw [be_s] at hpre
        have hpre' : (pre ++ [UInt8.ofNat (v / 256 ^ r)]) ++ be r v = be n v := by rw [← hpre]; simp
        rw [ek]
        have hbt : (((v / 256 ^ r : Nat) : Int)) = (v / 256 ^ r : Nat) := rfl
        obtain ⟨b, hb⟩ : ∃ b, b = UInt8.ofNat (v / 256 ^ r) := ⟨_, rfl⟩
        rw [← hb] at hpre'
        rcases hW with ⟨cs2, x2, len2, cap2, mk2, rfl, hcs2, hl2, hc2⟩ | ⟨cs2, os, x2, M, len2, cap2, mk2, mo, rfl, hcs2, hos, hl2, hc2⟩
        all_goals
          have hcl2 : cs2.length = cap2 := by rw [hcs2, u8s_length, List.length_append]; omega
          rw [List.length_append] at hl2
          conv => whnf
          repeat' ((first | ((with_reducible refine y'r ?_ ?_); (· decide +kernel)) | ((with_reducible refine y'g ?_ ?_); (· exact ⟨_, rfl⟩)) | (with_reducible refine y'1 ‹_› ?_) | ((with_reducible refine y'n ?_ ?_); (· first | assumption | exact decide_eq_true (by omega) | exact mkOK_of (by decide) | decide +kernel | (refine decide_eq_true ?_; simp (disch := omega) only [i64w]; omega))) | fail) <;> (conv => whnf))
          rw [mul8 (show r ≤ 8 by omega), shr8 (show r ≤ 8 by omega), wrap8, b8_ofNat, ← hb]
          conv => whnf
          skip
        all_goals
          refine y'c (fun h => ?_) (fun h => ?_)
        · have h' := of_decide_eq_true h
          conv => whnf
          refine y'n (decide_eq_true (by simp [s5]; omega)) ?_
          conv => whnf
          skip
          refine y'f (app_in hcs2 (by rw [List.length_append]; exact hl2) s5 (by rw [List.length_append, List.length_append]; omega) (b := b) rfl) (fun cs3 hcs3 => ?_)
          rw [List.append_assoc L pre [b]] at hcs3
          conv => whnf
          repeat' ((first | ((with_reducible refine y'g ?_ ?_); (· exact ⟨_, rfl⟩)) | (with_reducible refine y'1 ‹_› ?_) | fail) <;> (conv => whnf))
          exact ⟨r, by omega, Into.weak [0, 1] [(0, .a (.ptr 0 0)), (1, .a (.int .u64 (v : Int))), (2, .a (.int .i64 ((r : Int) - 1)))] [.cells [.slc 1 0 (len2 + 1) cap2] 146 false, .cells cs3 5 mk2] ⟨pre ++ [b], by omega, hpre', .here cs3 x2.tail _ cap2 mk2 rfl hcs3 (by rw [List.length_append, List.length_append, List.length_singleton]; omega) (by rw [List.length_tail]; omega), rfl⟩ ⟨rfl, rfl, congrArg (fun z => some (V.a (.int .i64 z))) ek2, trivial⟩ ⟨rfl, ren_fv hcs3 _ _ _, trivial⟩ (by simp [nodupb, baseb, Ob.okb, frmOk, V.okb, A.okb, all_fv hcs3] <;> decide)⟩
        · have h' := of_decide_eq_false h
          conv => whnf
          refine y'n (decide_eq_true (by simp [s5, b5]; omega)) ?_
          intro cap' hcap'
          conv => whnf
          repeat' ((first | (with_reducible refine y'1 ‹_› ?_) | fail) <;> (conv => whnf))
          refine y'f (app_new (c := cap') hcs2 (by rw [List.length_append]; exact hl2) s5 rfl (b := b) rfl) (fun cs3 hcs3 => ?_)
          rw [List.append_assoc L pre [b]] at hcs3
          conv => whnf
          repeat' ((first | ((with_reducible refine y'g ?_ ?_); (· exact ⟨_, rfl⟩)) | (with_reducible refine y'1 ‹_› ?_) | fail) <;> (conv => whnf))
          exact ⟨r, by omega, Into.weak [0, 1, 3] [(0, .a (.ptr 0 0)), (1, .a (.int .u64 (v : Int))), (2, .a (.int .i64 ((r : Int) - 1)))] [.cells [.slc 2 0 (len2 + 1) cap'] 146 false, .cells cs2 5 mk2, .cells cs3 5 false] ⟨pre ++ [b], by omega, hpre', .moved cs3 cs2 _ _ _ cap' false mk2 rfl hcs3 hcs2 (by rw [List.length_append, List.length_append, List.length_singleton]; omega) (by rw [List.length_replicate]; omega), rfl⟩ ⟨rfl, rfl, congrArg (fun z => some (V.a (.int .i64 z))) ek2, trivial⟩ ⟨rfl, ren_fv hcs2 _ _ _, ren_fv hcs3 _ _ _, trivial⟩ (by simp [nodupb, baseb, Ob.okb, frmOk, V.okb, A.okb, all_fv hcs2, all_fv hcs3] <;> decide)⟩
        · have h' := of_decide_eq_true h
          conv => whnf
          refine y'n (decide_eq_true (by simp [s5]; omega)) ?_
          conv => whnf
          repeat' ((first | (with_reducible refine y'1 ‹_› ?_) | fail) <;> (conv => whnf))
          refine y'f (app_in hcs2 (by rw [List.length_append]; exact hl2) s5 (by rw [List.length_append, List.length_append]; omega) (b := b) rfl) (fun cs3 hcs3 => ?_)
          rw [List.append_assoc L pre [b]] at hcs3
          conv => whnf
          repeat' ((first | ((with_reducible refine y'g ?_ ?_); (· exact ⟨_, rfl⟩)) | (with_reducible refine y'1 ‹_› ?_) | fail) <;> (conv => whnf))
          exact ⟨r, by omega, Into.weak [0, 1, 2] [(0, .a (.ptr 0 0)), (1, .a (.int .u64 (v : Int))), (2, .a (.int .i64 ((r : Int) - 1)))] [.cells [.slc 2 0 (len2 + 1) cap2] 146 false, .cells os 5 mo, .cells cs3 5 mk2] ⟨pre ++ [b], by omega, hpre', .moved cs3 os x2.tail M _ cap2 mk2 mo rfl hcs3 hos (by rw [List.length_append, List.length_append, List.length_singleton]; omega) (by rw [List.length_tail]; omega), rfl⟩ ⟨rfl, rfl, congrArg (fun z => some (V.a (.int .i64 z))) ek2, trivial⟩ ⟨rfl, ren_fv hos _ _ _, ren_fv hcs3 _ _ _, trivial⟩ (by simp [nodupb, baseb, Ob.okb, frmOk, V.okb, A.okb, all_fv hos, all_fv hcs3] <;> decide)⟩
        · have h' := of_decide_eq_false h
          conv => whnf
          refine y'n (decide_eq_true (by simp [s5, b5]; omega)) ?_
          intro cap' hcap'
          conv => whnf
          repeat' ((first | (with_reducible refine y'1 ‹_› ?_) | fail) <;> (conv => whnf))
          refine y'f (app_new (c := cap') hcs2 (by rw [List.length_append]; exact hl2) s5 rfl (b := b) rfl) (fun cs3 hcs3 => ?_)
          rw [List.append_assoc L pre [b]] at hcs3
          conv => whnf
          repeat' ((first | ((with_reducible refine y'g ?_ ?_); (· exact ⟨_, rfl⟩)) | (with_reducible refine y'1 ‹_› ?_) | fail) <;> (conv => whnf))
          exact ⟨r, by omega, Into.weak [0, 1, 4] [(0, .a (.ptr 0 0)), (1, .a (.int .u64 (v : Int))), (2, .a (.int .i64 ((r : Int) - 1)))] [.cells [.slc 2 0 (len2 + 1) cap'] 146 false, .cells os 5 mo, .cells cs3 5 false] ⟨pre ++ [b], by omega, hpre', .moved cs3 os _ M _ cap' false mo rfl hcs3 hos (by rw [List.length_append, List.length_append, List.length_singleton]; omega) (by rw [List.length_replicate]; omega), rfl⟩ ⟨rfl, rfl, congrArg (fun z => some (V.a (.int .i64 z))) ek2, trivial⟩ ⟨rfl, ren_fv hos _ _ _, ren_fv hcs3 _ _ _, trivial⟩ (by simp [nodupb, baseb, Ob.okb, frmOk, V.okb, A.okb, all_fv hos, all_fv hcs3] <;> decide)⟩
theorem bits_n : Extern.findNext Tryd.f50 = none := by decide +kernel
theorem bits_f : Extern.find Tryd.f50 = some Extern.MathFloatBits.float64bits := by rfl
theorem from_n : Extern.findNext Tryd.f12 = none := by decide +kernel
theorem from_f : Extern.find Tryd.f12 = some Extern.MathFloatBits.float64frombits := by rfl
set_option maxHeartbeats 400000 in
theorem isnan (x : Nat) {K : V → Hp → Prop} (hK : K (.a (.bool (isNan x))) []) : Go.Eng.Fn Tryd.prog ro 83 [.a (.flt .f64 x)] [] K := by
  refine Fn.weak ?_
  refine Fn.of_code (gOf []) Tryd.func83 rfl (Nat.le_of_ble_eq_true rfl) ?_
  conv => whnf
  skip
  have e : (!fEqK .f64 x x) = isNan x := by rw [fEq_self]; simp
  exact keepOf (v₀ := .a (.bool (isNan x))) [] [] (congrArg (fun b => V.a (.bool b)) e) trivial rfl hK
set_option maxHeartbeats 400000 in
theorem wfloat (v : Nat) (hv : v < 18446744073709551616) (L x : List UInt8) (cs : List A) (len cap : Nat) (mk : Bool) (hcs : cs = u8s (L ++ x)) (hl : len = L.length) (hc : cap = len + x.length) (hL : L.length ≤ 1000000) {K : V → Hp → Prop}
    (hK : ∀ H, WOut (L ++ be 8 (fbits v)) H → K (.t []) H) :
    Go.Eng.Fn Tryd.prog ro 78 [.a (.ptr 0 0), .a (.flt .f64 v)] [.cells [.slc 1 0 len cap] 146 false, .cells cs 5 mk] K := by
  have hb := fbits_lt hv
  refine Fn.weak ?_
  refine Fn.of 2 (gOf []) rfl Tryd.func78 rfl (Nat.le_of_ble_eq_true rfl) ?_
  conv => whnf
  refine ext_bits (by rfl) bits_n bits_f ?_
  conv => whnf
  repeat' ((first | (with_reducible refine y'1 ‹_› ?_) | fail) <;> (conv => whnf))
  refine Fn.frame [] (by rfl) (by exact trivial) (by rfl) (isnan v ?_)
  cases hn : isNan v with
  | true =>
    rw [fbits_nan hn] at hK
    conv => whnf
    repeat' ((first | (with_reducible refine y'1 ‹_› ?_) | fail) <;> (conv => whnf))
    refine Fn.frame [0, 1] (by rfl) (by exact ⟨rfl, ren_fv hcs _ _ _, trivial⟩) (by simp [nodupb, V.okb, A.okb, Ob.okb, all_fv hcs] <;> decide) (wfixed 9221120237041090560 8 (by decide) (by decide) (by decide) L x cs len cap mk hcs hl hc hL (fun H hW => ?_))
    have hk := hK H hW
    rcases hW with ⟨cs2, x2, len2, cap2, mk2, rfl, hcs2, hl2, hc2⟩ | ⟨cs2, os, x2, M, len2, cap2, mk2, mo, rfl, hcs2, hos, hl2, hc2⟩
    ·
      conv => whnf
      repeat' ((first | (with_reducible refine y'2 ‹_› ?_) | fail) <;> (conv => whnf))
      exact keepOf (v₀ := .t []) [.cells [.slc 1 0 len2 cap2] 146 false, .cells cs2 5 mk2] [0, 1] rfl ⟨rfl, ren_fv hcs2 _ _ _, trivial⟩ (by simp [nodupb, baseb, Ob.okb, frmOk, V.okb, A.okb, all_fv hcs2] <;> decide) hk
    ·
      conv => whnf
      repeat' ((first | (with_reducible refine y'2 ‹_› ?_) | fail) <;> (conv => whnf))
      exact keepOf (v₀ := .t []) [.cells [.slc 2 0 len2 cap2] 146 false, .cells os 5 mo, .cells cs2 5 mk2] [0, 1, 2] rfl ⟨rfl, ren_fv hos _ _ _, ren_fv hcs2 _ _ _, trivial⟩ (by simp [nodupb, baseb, Ob.okb, frmOk, V.okb, A.okb, all_fv hos, all_fv hcs2] <;> decide) hk
  | false =>
    rw [fbits_num hn] at hK
    conv => whnf
    repeat' ((first | (with_reducible refine y'1 ‹_› ?_) | fail) <;> (conv => whnf))
    refine Fn.frame [0, 1] (by rfl) (by exact ⟨rfl, ren_fv hcs _ _ _, trivial⟩) (by simp [nodupb, V.okb, A.okb, Ob.okb, all_fv hcs] <;> decide) (wfixed v 8 (by decide) (by decide) hv L x cs len cap mk hcs hl hc hL (fun H hW => ?_))
    have hk := hK H hW
    rcases hW with ⟨cs2, x2, len2, cap2, mk2, rfl, hcs2, hl2, hc2⟩ | ⟨cs2, os, x2, M, len2, cap2, mk2, mo, rfl, hcs2, hos, hl2, hc2⟩
    ·
      conv => whnf
      repeat' ((first | (with_reducible refine y'2 ‹_› ?_) | fail) <;> (conv => whnf))
      exact keepOf (v₀ := .t []) [.cells [.slc 1 0 len2 cap2] 146 false, .cells cs2 5 mk2] [0, 1] rfl ⟨rfl, ren_fv hcs2 _ _ _, trivial⟩ (by simp [nodupb, baseb, Ob.okb, frmOk, V.okb, A.okb, all_fv hcs2] <;> decide) hk
    ·
      conv => whnf
      repeat' ((first | (with_reducible refine y'2 ‹_› ?_) | fail) <;> (conv => whnf))
      exact keepOf (v₀ := .t []) [.cells [.slc 2 0 len2 cap2] 146 false, .cells os 5 mo, .cells cs2 5 mk2] [0, 1, 2] rfl ⟨rfl, ren_fv hos _ _ _, ren_fv hcs2 _ _ _, trivial⟩ (by simp [nodupb, baseb, Ob.okb, frmOk, V.okb, A.okb, all_fv hos, all_fv hcs2] <;> decide) hk
set_option maxHeartbeats 400000 in
theorem wtold (L x : List UInt8) (cs : List A) (len cap : Nat) (mk : Bool) (hcs : cs = u8s (L ++ x)) (hl : len = L.length) {K : V → Hp → Prop}
    (hK : K (.a (.str (bs L))) [.cells [.slc 1 0 len cap] 146 false, .cells cs 5 mk]) :
    Go.Eng.Fn Tryd.prog ro 79 [.a (.ptr 0 0)] [.cells [.slc 1 0 len cap] 146 false, .cells cs 5 mk] K := by
  refine Fn.weak ?_
  refine Fn.of 2 (gOf []) rfl Tryd.func79 rfl (Nat.le_of_ble_eq_true rfl) ?_
  conv => whnf
  repeat' ((first | (with_reducible first | refine y'n (y'7 ‹_› ‹_›) ?_ | refine y'v (y'8 ‹_› ‹_›) (fun s hs => ?_)) | fail) <;> (conv => whnf))
  subst hs
  exact keepOf (v₀ := .a (.str (bs s))) [.cells [.slc 1 0 len cap] 146 false, .cells cs 5 mk] [0, 1] rfl ⟨rfl, ren_fv hcs _ _ _, trivial⟩ (by simp [nodupb, baseb, Ob.okb, frmOk, V.okb, A.okb, all_fv hcs] <;> decide) hK
end
end Go.Proofs.YtimddbgnaeeggaaDoor.KD
--full: all ways to show that a number is small enough
