import Derived.Test.YtimddbgnaeeggaaDoorUE
import Derived.Test.YtimddbgnaeeggaaDoorRV
namespace Go.Proofs.YtimddbgnaeeggaaDoor.KD
open Go.Eng
set_option maxRecDepth 100000
theorem bs_tail (b : UInt8) (T : List UInt8) : (bs (b :: T)).extract (Int.toNat 1) (bs (b :: T)).size = bs T := by
  rw [bs_extract, bs_size]
  congr 1
  show List.take ((b :: T).length - 1) (List.drop 1 (b :: T)) = T
  rw [List.drop_succ_cons, List.drop_zero, List.length_cons, Nat.add_sub_cancel, List.take_of_length_le (Nat.le_refl _)]
theorem bs_head (b : UInt8) (T : List UInt8) : (bs (b :: T)).extract 0 (Int.toNat 1) = bs [b] := by
  rw [bs_extract]; rfl
theorem mg_len : ∀ a b : List Nat, (flat (mg a b)).length ≤ (flat a).length + (flat b).length
  | [], b => by rw [mg_nil]; omega
  | x :: a, [] => by rw [mg_nil2]; omega
  | x :: a, y :: b => by
    have hx := flat_clen x a
    have hy := flat_clen y b
    rcases Nat.lt_trichotomy x y with h | h | h
    · rw [mg_lt a b h, flat_clen]; have := mg_len a (y :: b); omega
    · subst h; rw [mg_eq, flat_clen]; have := mg_len a b; omega
    · rw [mg_gt a b h, flat_clen]; have := mg_len (x :: a) b; omega
termination_by a b => a.length + b.length
theorem Va.kind_ne (w : Va) : w.kind.toNat ≠ 0 := by
  cases w with
  | flag b => exact (by decide : (1 : UInt8).toNat ≠ 0)
  | real b => exact (by decide : (2 : UInt8).toNat ≠ 0)
  | tally b => exact (by decide : (3 : UInt8).toNat ≠ 0)
  | runes b => exact (by decide : (4 : UInt8).toNat ≠ 0)
  | corner b c => exact (by decide : (5 : UInt8).toNat ≠ 0)
section
variable {ro : Addr → A → Prop}
set_option maxHeartbeats 1000000 in
theorem kindB (L : List UInt8) {K : V → Hp → Prop} (hK : K (.a (.int .u8 (kd L : Nat))) []) : Go.Eng.Fn Tryd.prog ro 24 [.a (.str (bs L))] [] K :=
  kindAll L (fun v hv e => by rw [← kd_va hv e]; exact hK) (fun h => by rw [kd_no h] at hK; exact hK)
set_option maxHeartbeats 1000000 in
theorem both_flag (a b : Bool) {K : V → Hp → Prop} (hK : K (.a (.str (bs (Va.flag (a || b)).bytes))) []) :
    Go.Eng.Fn Tryd.prog ro 47 [.a (.str (bs (Va.flag a).bytes)), .a (.str (bs (Va.flag b).bytes))] [] K := by
  have g0 : byteAt (bs (Va.flag a).bytes) 0 = some 1 := byteAt_bs (i := 0) rfl
  have g1 := True.intro
  refine Go.Eng.Fn.weak ?_
  refine Go.Eng.Fn.of_code h47 Tryd.func47 rfl (Nat.le_of_ble_eq_true rfl) ?_
  have hm : (!Op.bytesLess (bs (Va.flag a).bytes).data.toList (bs (Va.flag b).bytes).data.toList) = (a || !b) := by
    cases a <;> cases b <;> rfl
  obtain ⟨x, hx⟩ : ∃ x, x = bs (Va.flag a).bytes := ⟨_, rfl⟩
  obtain ⟨y, hy⟩ : ∃ y, y = bs (Va.flag b).bytes := ⟨_, rfl⟩
  rw [← hx] at g0 hm ⊢
  rw [← hy] at hm ⊢
  cases hab : (a || !b) with
  | true =>
    rw [hab] at hm
    have e : bs (Va.flag (a || b)).bytes = x := by rw [hx]; revert hab; cases a <;> cases b <;> first | (intro _; rfl) | (intro h; cases h)
    rw [e] at hK
    conv => whnf
    repeat' ((first | ((with_reducible refine regx_of ?_ ?_); (· decide +kernel)) | ((with_reducible refine growx_pre ?_ ?_); (· exact ⟨_, rfl⟩)) | (with_reducible first | refine condm_b ‹_› ?_ | refine needm_of ‹_› ?_ | refine forceL_fv ‹_› ?_ | refine forceL_rfv ‹_› ?_ | refine forceNm_of ?_ | refine forceA_of ?_) | ((with_reducible refine needm_of ?_ ?_); (· first | with_reducible assumption | exact decide_eq_true (by omega) | exact mkOK_of (by decide) | decide +kernel | (refine decide_eq_true ?_; simp (disch := omega) only [i64w]; omega))) | (with_reducible first | refine needm_of (fv_lenL ‹_› ‹_›) ?_ | refine optm_var (fv_strL ‹_› ‹_›) (fun s hs => ?_)) | ((with_reducible apply optm_of); (· first | exact g0 | exact g1)) | ((with_reducible refine condm_pos ?_ ?_); (· rfl)) | ((with_reducible refine condm_neg ?_ ?_); (· rfl)) | fail) <;> (conv => whnf))
    exact keepOf (v₀ := .a (.str x)) [] [] rfl trivial rfl hK
  | false =>
    rw [hab] at hm
    have e : bs (Va.flag (a || b)).bytes = y := by rw [hy]; revert hab; cases a <;> cases b <;> first | (intro _; rfl) | (intro h; cases h)
    rw [e] at hK
    conv => whnf
    repeat' ((first | ((with_reducible refine regx_of ?_ ?_); (· decide +kernel)) | ((with_reducible refine growx_pre ?_ ?_); (· exact ⟨_, rfl⟩)) | (with_reducible first | refine condm_b ‹_› ?_ | refine needm_of ‹_› ?_ | refine forceL_fv ‹_› ?_ | refine forceL_rfv ‹_› ?_ | refine forceNm_of ?_ | refine forceA_of ?_) | ((with_reducible refine needm_of ?_ ?_); (· first | with_reducible assumption | exact decide_eq_true (by omega) | exact mkOK_of (by decide) | decide +kernel | (refine decide_eq_true ?_; simp (disch := omega) only [i64w]; omega))) | (with_reducible first | refine needm_of (fv_lenL ‹_› ‹_›) ?_ | refine optm_var (fv_strL ‹_› ‹_›) (fun s hs => ?_)) | ((with_reducible apply optm_of); (· first | exact g0 | exact g1)) | ((with_reducible refine condm_pos ?_ ?_); (· rfl)) | ((with_reducible refine condm_neg ?_ ?_); (· rfl)) | fail) <;> (conv => whnf))
    exact keepOf (v₀ := .a (.str y)) [] [] rfl trivial rfl hK
set_option maxHeartbeats 1000000 in
theorem both_runes (hT : Tabs ro) (r s : List Nat) (hr : AllV r) (hs : AllV s) (hlr : (flat r).length ≤ 100) (hls : (flat s).length ≤ 100) {K : V → Hp → Prop} (hK : K (.a (.str (bs (4 :: flat (mg r s))))) []) :
    Go.Eng.Fn Tryd.prog ro 47 [.a (.str (bs (4 :: flat r))), .a (.str (bs (4 :: flat s)))] [] K := by
  have g0 : byteAt (bs (4 :: flat r)) 0 = some 4 := byteAt_bs (i := 0) rfl
  have g1 := True.intro
  have k := @union1 ro hT r s hr hs (by omega)
  have hx1 := bs_tail 4 (flat r)
  have hy1 := bs_tail 4 (flat s)
  have hx0 := bs_head 4 (flat r)
  have hxs : (bs (4 :: flat r)).size = (flat r).length + 1 := by rw [bs_size]; rfl
  have hys : (bs (4 :: flat s)).size = (flat s).length + 1 := by rw [bs_size]; rfl
  have c0 : decide ((0 : Int) ≤ 1 ∧ (1 : Int) ≤ ((bs (4 :: flat r)).size : Int)) = true := decide_eq_true (by omega)
  have c1 : decide ((0 : Int) ≤ 1 ∧ (1 : Int) ≤ ((bs (4 :: flat s)).size : Int)) = true := decide_eq_true (by omega)
  have hml := mg_len r s
  have hend : bs [4] ++ bs (flat (mg r s)) = bs (4 :: flat (mg r s)) := by rw [bs_append]; rfl
  have h4s : (bs [4]).size = 1 := rfl
  have hus : (bs (flat (mg r s))).size = (flat (mg r s)).length := bs_size _
  rw [← hend] at hK
  generalize bs (4 :: flat r) = x at *
  generalize bs (4 :: flat s) = y at *
  generalize bs (flat (mg r s)) = u at *
  generalize bs (flat r) = fr at *
  generalize bs (flat s) = fs at *
  generalize bs [4] = four at *
  refine Go.Eng.Fn.weak ?_
  refine Go.Eng.Fn.of_code h47 Tryd.func47 rfl (Nat.le_of_ble_eq_true rfl) ?_
  conv => whnf
  repeat' ((first | rw [hx0] | rw [hx1] | rw [hy1] | ((with_reducible refine regx_of ?_ ?_); (· decide +kernel)) | ((with_reducible refine growx_pre ?_ ?_); (· exact ⟨_, rfl⟩)) | (with_reducible first | refine condm_b ‹_› ?_ | refine needm_of ‹_› ?_ | refine forceL_fv ‹_› ?_ | refine forceL_rfv ‹_› ?_ | refine forceNm_of ?_ | refine forceA_of ?_) | ((with_reducible refine needm_of ?_ ?_); (· first | with_reducible assumption | exact decide_eq_true (by omega) | exact mkOK_of (by decide) | decide +kernel | (refine decide_eq_true ?_; simp (disch := omega) only [i64w]; omega))) | (with_reducible first | refine needm_of (fv_lenL ‹_› ‹_›) ?_ | refine optm_var (fv_strL ‹_› ‹_›) (fun s hs => ?_)) | ((with_reducible apply optm_of); (· first | exact g0 | exact g1)) | ((with_reducible refine condm_pos ?_ ?_); (· rfl)) | ((with_reducible refine condm_neg ?_ ?_); (· rfl)) | ((with_reducible refine needm_of ?_ ?_); (· refine decide_eq_true ?_; rw [h4s, hus]; omega)) | (refine Go.Eng.Fn.frame [] (by rfl) (by exact trivial) (by rfl) (k ?_)) | fail) <;> (conv => whnf))
  exact keepOf (v₀ := .a (.str (four ++ u))) [] [] rfl trivial rfl hK
/-- both: of two values of a kind. -/
theorem bothV (hT : Tabs ro) (v w : Va) (hv : v.ok) (hw : w.ok) (h : v.kind = w.kind) {K : V → Hp → Prop} (hK : K (.a (.str (bs (v.jn w).bytes))) []) :
    Go.Eng.Fn Tryd.prog ro 47 [.a (.str (bs v.bytes)), .a (.str (bs w.bytes))] [] K := by
  cases two_of h with
  | flag a b => exact both_flag a b hK
  | real a b => exact both_real a b hv hw hK
  | tally a b => exact bothT a b hv hw hK
  | runes a b => exact both_runes hT a b hv.1 hw.1 (by have := hv.2.2; omega) (by have := hw.2.2; omega) hK
  | corner a b a' b' => exact both_corner a b a' b' hv.1 hv.2 hw.1 hw.2 hK
theorem jn_len {v w : Va} (hv : v.ok) (hw : w.ok) (h : v.kind = w.kind) : (v.jn w).bytes.length ≤ 1000 := by
  cases two_of h with
  | flag a b => simp [Va.jn, Va.bytes]
  | real a b => simp [Va.jn, Va.bytes, be_length]
  | tally a b => have := enc_le (mxC a b); simp only [Va.jn, Va.bytes, List.length_cons]; omega
  | runes a b => have := mg_len a b; have := hv.2.2; have := hw.2.2; simp only [Va.jn, Va.bytes, List.length_cons]; omega
  | corner a b a' b' => simp [Va.jn, Va.bytes, be_length]
set_option maxHeartbeats 2000000 in
theorem joinB (hT : Tabs ro) (L M : List UInt8) {K : V → Hp → Prop} (hK : K (.t [.a (.str (bs (jnB L M).1)), .a (.int .i64 (jnB L M).2)]) []) :
    Go.Eng.Fn Tryd.prog ro 17 [.a (.str (bs L)), .a (.str (bs M))] [] K := by
  have g0 := True.intro
  have g1 := True.intro
  have kL := @kindB ro L
  have kM := @kindB ro M
  have kB : ∀ v w, Pr L M v w → ∀ K, K (.a (.str (bs (v.jn w).bytes))) [] → Go.Eng.Fn Tryd.prog ro 47 [.a (.str (bs L)), .a (.str (bs M))] [] K := fun v w h K hK => by
    rw [h.2.2.2.1, h.2.2.2.2]; exact bothV hT v w h.1 h.2.1 h.2.2.1 hK
  have hz : ∀ n : Nat, n ≠ 0 → (((n : Nat) : Int) == 0) = false := fun n h => by simp; omega
  have hc := jn_cases L M
  refine Go.Eng.Fn.weak ?_
  refine Go.Eng.Fn.of_code (gOf []) Tryd.func17 rfl (Nat.le_of_ble_eq_true rfl) ?_
  have kp : ∀ v w, Pr L M v w → kd L = kd M ∧ kd L ≠ 0 := fun v w h => by
    rw [kd_va h.1 h.2.2.2.1, kd_va h.2.1 h.2.2.2.2, h.2.2.1]
    exact ⟨rfl, w.kind_ne⟩
  have kn : (∀ v w, ¬ Pr L M v w) → kd L = 0 ∨ kd L ≠ kd M := fun h => by
    by_cases hV : IsVa L
    · by_cases hW : IsVa M
      · obtain ⟨v, hv, e⟩ := hV
        obtain ⟨w, hw, e'⟩ := hW
        refine .inr (fun hk => h v w ⟨hv, hw, ?_, e, e'⟩)
        rw [kd_va hv e, kd_va hw e'] at hk
        exact UInt8.toNat_inj.1 hk
      · by_cases h0 : kd L = 0
        · exact .inl h0
        · exact .inr (by rw [kd_no hW]; exact h0)
    · exact .inl (kd_no hV)
  obtain ⟨x, hx⟩ : ∃ x, x = bs L := ⟨_, rfl⟩
  obtain ⟨y, hy⟩ : ∃ y, y = bs M := ⟨_, rfl⟩
  rw [← hx] at kL kB ⊢
  rw [← hy] at kM kB ⊢
  obtain ⟨kl, hkl⟩ : ∃ k, k = kd L := ⟨_, rfl⟩
  obtain ⟨km, hkm⟩ : ∃ k, k = kd M := ⟨_, rfl⟩
  rw [← hkl] at kL kp kn
  rw [← hkm] at kM kp kn
  rcases hc with ⟨v, w, hp, hl, e⟩ | ⟨v, w, hp, hl, e⟩ | ⟨hp, e⟩
  · rw [e] at hK
    obtain ⟨h1, h2⟩ := kp v w hp
    have c0 := hz kl h2
    have c1 : ((kl : Int) != (km : Int)) = false := by rw [h1]; simp
    have k3 := kB v w hp
    have hsz : (bs (v.jn w).bytes).size = (v.jn w).bytes.length := bs_size _
    have c2 : decide (((bs (v.jn w).bytes).size : Int) > 40) = true := decide_eq_true (by omega)
    generalize bs (v.jn w).bytes = u at *
    conv => whnf
    repeat' ((first | ((with_reducible refine regx_of ?_ ?_); (· decide +kernel)) | ((with_reducible refine growx_pre ?_ ?_); (· exact ⟨_, rfl⟩)) | (with_reducible first | refine condm_b ‹_› ?_ | refine needm_of ‹_› ?_ | refine forceL_fv ‹_› ?_ | refine forceL_rfv ‹_› ?_ | refine forceNm_of ?_ | refine forceA_of ?_) | ((with_reducible refine needm_of ?_ ?_); (· first | with_reducible assumption | exact decide_eq_true (by omega) | exact mkOK_of (by decide) | decide +kernel | (refine decide_eq_true ?_; simp (disch := omega) only [i64w]; omega))) | (with_reducible first | refine needm_of (fv_lenL ‹_› ‹_›) ?_ | refine optm_var (fv_strL ‹_› ‹_›) (fun s hs => ?_)) | ((with_reducible apply optm_of); (· first | exact g0 | exact g1)) | ((with_reducible refine condm_pos ?_ ?_); (· rfl)) | ((with_reducible refine condm_neg ?_ ?_); (· rfl)) | fail) <;> (conv => whnf))
    refine Go.Eng.Fn.frame [] (by rfl) (by exact trivial) (by rfl) (kL ?_)
    conv => whnf
    repeat' ((first | ((with_reducible refine regx_of ?_ ?_); (· decide +kernel)) | ((with_reducible refine growx_pre ?_ ?_); (· exact ⟨_, rfl⟩)) | (with_reducible first | refine condm_b ‹_› ?_ | refine needm_of ‹_› ?_ | refine forceL_fv ‹_› ?_ | refine forceL_rfv ‹_› ?_ | refine forceNm_of ?_ | refine forceA_of ?_) | ((with_reducible refine needm_of ?_ ?_); (· first | with_reducible assumption | exact decide_eq_true (by omega) | exact mkOK_of (by decide) | decide +kernel | (refine decide_eq_true ?_; simp (disch := omega) only [i64w]; omega))) | (with_reducible first | refine needm_of (fv_lenL ‹_› ‹_›) ?_ | refine optm_var (fv_strL ‹_› ‹_›) (fun s hs => ?_)) | ((with_reducible apply optm_of); (· first | exact g0 | exact g1)) | ((with_reducible refine condm_pos ?_ ?_); (· rfl)) | ((with_reducible refine condm_neg ?_ ?_); (· rfl)) | fail) <;> (conv => whnf))
    refine Go.Eng.Fn.frame [] (by rfl) (by exact trivial) (by rfl) (kM ?_)
    conv => whnf
    repeat' ((first | ((with_reducible refine regx_of ?_ ?_); (· decide +kernel)) | ((with_reducible refine growx_pre ?_ ?_); (· exact ⟨_, rfl⟩)) | (with_reducible first | refine condm_b ‹_› ?_ | refine needm_of ‹_› ?_ | refine forceL_fv ‹_› ?_ | refine forceL_rfv ‹_› ?_ | refine forceNm_of ?_ | refine forceA_of ?_) | ((with_reducible refine needm_of ?_ ?_); (· first | with_reducible assumption | exact decide_eq_true (by omega) | exact mkOK_of (by decide) | decide +kernel | (refine decide_eq_true ?_; simp (disch := omega) only [i64w]; omega))) | (with_reducible first | refine needm_of (fv_lenL ‹_› ‹_›) ?_ | refine optm_var (fv_strL ‹_› ‹_›) (fun s hs => ?_)) | ((with_reducible apply optm_of); (· first | exact g0 | exact g1)) | ((with_reducible refine condm_pos ?_ ?_); (· rfl)) | ((with_reducible refine condm_neg ?_ ?_); (· rfl)) | fail) <;> (conv => whnf))
    refine Go.Eng.Fn.frame [] (by rfl) (by exact trivial) (by rfl) (k3 _ ?_)
    conv => whnf
    repeat' ((first | ((with_reducible refine regx_of ?_ ?_); (· decide +kernel)) | ((with_reducible refine growx_pre ?_ ?_); (· exact ⟨_, rfl⟩)) | (with_reducible first | refine condm_b ‹_› ?_ | refine needm_of ‹_› ?_ | refine forceL_fv ‹_› ?_ | refine forceL_rfv ‹_› ?_ | refine forceNm_of ?_ | refine forceA_of ?_) | ((with_reducible refine needm_of ?_ ?_); (· first | with_reducible assumption | exact decide_eq_true (by omega) | exact mkOK_of (by decide) | decide +kernel | (refine decide_eq_true ?_; simp (disch := omega) only [i64w]; omega))) | (with_reducible first | refine needm_of (fv_lenL ‹_› ‹_›) ?_ | refine optm_var (fv_strL ‹_› ‹_›) (fun s hs => ?_)) | ((with_reducible apply optm_of); (· first | exact g0 | exact g1)) | ((with_reducible refine condm_pos ?_ ?_); (· rfl)) | ((with_reducible refine condm_neg ?_ ?_); (· rfl)) | fail) <;> (conv => whnf))
    exact keepOf (v₀ := .t [.a (.str (bs [])), .a (.int .i64 82)]) [] [] rfl trivial rfl hK
  · rw [e] at hK
    obtain ⟨h1, h2⟩ := kp v w hp
    have c0 := hz kl h2
    have c1 : ((kl : Int) != (km : Int)) = false := by rw [h1]; simp
    have k3 := kB v w hp
    have hsz : (bs (v.jn w).bytes).size = (v.jn w).bytes.length := bs_size _
    have c2 : decide (((bs (v.jn w).bytes).size : Int) > 40) = false := decide_eq_false (by omega)
    generalize bs (v.jn w).bytes = u at *
    conv => whnf
    repeat' ((first | ((with_reducible refine regx_of ?_ ?_); (· decide +kernel)) | ((with_reducible refine growx_pre ?_ ?_); (· exact ⟨_, rfl⟩)) | (with_reducible first | refine condm_b ‹_› ?_ | refine needm_of ‹_› ?_ | refine forceL_fv ‹_› ?_ | refine forceL_rfv ‹_› ?_ | refine forceNm_of ?_ | refine forceA_of ?_) | ((with_reducible refine needm_of ?_ ?_); (· first | with_reducible assumption | exact decide_eq_true (by omega) | exact mkOK_of (by decide) | decide +kernel | (refine decide_eq_true ?_; simp (disch := omega) only [i64w]; omega))) | (with_reducible first | refine needm_of (fv_lenL ‹_› ‹_›) ?_ | refine optm_var (fv_strL ‹_› ‹_›) (fun s hs => ?_)) | ((with_reducible apply optm_of); (· first | exact g0 | exact g1)) | ((with_reducible refine condm_pos ?_ ?_); (· rfl)) | ((with_reducible refine condm_neg ?_ ?_); (· rfl)) | fail) <;> (conv => whnf))
    refine Go.Eng.Fn.frame [] (by rfl) (by exact trivial) (by rfl) (kL ?_)
    conv => whnf
    repeat' ((first | ((with_reducible refine regx_of ?_ ?_); (· decide +kernel)) | ((with_reducible refine growx_pre ?_ ?_); (· exact ⟨_, rfl⟩)) | (with_reducible first | refine condm_b ‹_› ?_ | refine needm_of ‹_› ?_ | refine forceL_fv ‹_› ?_ | refine forceL_rfv ‹_› ?_ | refine forceNm_of ?_ | refine forceA_of ?_) | ((with_reducible refine needm_of ?_ ?_); (· first | with_reducible assumption | exact decide_eq_true (by omega) | exact mkOK_of (by decide) | decide +kernel | (refine decide_eq_true ?_; simp (disch := omega) only [i64w]; omega))) | (with_reducible first | refine needm_of (fv_lenL ‹_› ‹_›) ?_ | refine optm_var (fv_strL ‹_› ‹_›) (fun s hs => ?_)) | ((with_reducible apply optm_of); (· first | exact g0 | exact g1)) | ((with_reducible refine condm_pos ?_ ?_); (· rfl)) | ((with_reducible refine condm_neg ?_ ?_); (· rfl)) | fail) <;> (conv => whnf))
    refine Go.Eng.Fn.frame [] (by rfl) (by exact trivial) (by rfl) (kM ?_)
    conv => whnf
    repeat' ((first | ((with_reducible refine regx_of ?_ ?_); (· decide +kernel)) | ((with_reducible refine growx_pre ?_ ?_); (· exact ⟨_, rfl⟩)) | (with_reducible first | refine condm_b ‹_› ?_ | refine needm_of ‹_› ?_ | refine forceL_fv ‹_› ?_ | refine forceL_rfv ‹_› ?_ | refine forceNm_of ?_ | refine forceA_of ?_) | ((with_reducible refine needm_of ?_ ?_); (· first | with_reducible assumption | exact decide_eq_true (by omega) | exact mkOK_of (by decide) | decide +kernel | (refine decide_eq_true ?_; simp (disch := omega) only [i64w]; omega))) | (with_reducible first | refine needm_of (fv_lenL ‹_› ‹_›) ?_ | refine optm_var (fv_strL ‹_› ‹_›) (fun s hs => ?_)) | ((with_reducible apply optm_of); (· first | exact g0 | exact g1)) | ((with_reducible refine condm_pos ?_ ?_); (· rfl)) | ((with_reducible refine condm_neg ?_ ?_); (· rfl)) | fail) <;> (conv => whnf))
    refine Go.Eng.Fn.frame [] (by rfl) (by exact trivial) (by rfl) (k3 _ ?_)
    conv => whnf
    repeat' ((first | ((with_reducible refine regx_of ?_ ?_); (· decide +kernel)) | ((with_reducible refine growx_pre ?_ ?_); (· exact ⟨_, rfl⟩)) | (with_reducible first | refine condm_b ‹_› ?_ | refine needm_of ‹_› ?_ | refine forceL_fv ‹_› ?_ | refine forceL_rfv ‹_› ?_ | refine forceNm_of ?_ | refine forceA_of ?_) | ((with_reducible refine needm_of ?_ ?_); (· first | with_reducible assumption | exact decide_eq_true (by omega) | exact mkOK_of (by decide) | decide +kernel | (refine decide_eq_true ?_; simp (disch := omega) only [i64w]; omega))) | (with_reducible first | refine needm_of (fv_lenL ‹_› ‹_›) ?_ | refine optm_var (fv_strL ‹_› ‹_›) (fun s hs => ?_)) | ((with_reducible apply optm_of); (· first | exact g0 | exact g1)) | ((with_reducible refine condm_pos ?_ ?_); (· rfl)) | ((with_reducible refine condm_neg ?_ ?_); (· rfl)) | fail) <;> (conv => whnf))
    exact keepOf (v₀ := .t [.a (.str u), .a (.int .i64 0)]) [] [] rfl trivial rfl hK
  · rw [e] at hK
    rcases Nat.eq_zero_or_pos kl with h0 | h0
    · have c0 : ((kl : Int) == 0) = true := by rw [h0]; rfl
      conv => whnf
      repeat' ((first | ((with_reducible refine regx_of ?_ ?_); (· decide +kernel)) | ((with_reducible refine growx_pre ?_ ?_); (· exact ⟨_, rfl⟩)) | (with_reducible first | refine condm_b ‹_› ?_ | refine needm_of ‹_› ?_ | refine forceL_fv ‹_› ?_ | refine forceL_rfv ‹_› ?_ | refine forceNm_of ?_ | refine forceA_of ?_) | ((with_reducible refine needm_of ?_ ?_); (· first | with_reducible assumption | exact decide_eq_true (by omega) | exact mkOK_of (by decide) | decide +kernel | (refine decide_eq_true ?_; simp (disch := omega) only [i64w]; omega))) | (with_reducible first | refine needm_of (fv_lenL ‹_› ‹_›) ?_ | refine optm_var (fv_strL ‹_› ‹_›) (fun s hs => ?_)) | ((with_reducible apply optm_of); (· first | exact g0 | exact g1)) | ((with_reducible refine condm_pos ?_ ?_); (· rfl)) | ((with_reducible refine condm_neg ?_ ?_); (· rfl)) | fail) <;> (conv => whnf))
      refine Go.Eng.Fn.frame [] (by rfl) (by exact trivial) (by rfl) (kL ?_)
      conv => whnf
      repeat' ((first | ((with_reducible refine regx_of ?_ ?_); (· decide +kernel)) | ((with_reducible refine growx_pre ?_ ?_); (· exact ⟨_, rfl⟩)) | (with_reducible first | refine condm_b ‹_› ?_ | refine needm_of ‹_› ?_ | refine forceL_fv ‹_› ?_ | refine forceL_rfv ‹_› ?_ | refine forceNm_of ?_ | refine forceA_of ?_) | ((with_reducible refine needm_of ?_ ?_); (· first | with_reducible assumption | exact decide_eq_true (by omega) | exact mkOK_of (by decide) | decide +kernel | (refine decide_eq_true ?_; simp (disch := omega) only [i64w]; omega))) | (with_reducible first | refine needm_of (fv_lenL ‹_› ‹_›) ?_ | refine optm_var (fv_strL ‹_› ‹_›) (fun s hs => ?_)) | ((with_reducible apply optm_of); (· first | exact g0 | exact g1)) | ((with_reducible refine condm_pos ?_ ?_); (· rfl)) | ((with_reducible refine condm_neg ?_ ?_); (· rfl)) | fail) <;> (conv => whnf))
      exact keepOf (v₀ := .t [.a (.str (bs [])), .a (.int .i64 120)]) [] [] rfl trivial rfl hK
    · have c0 := hz kl (by omega)
      have c1 : ((kl : Int) != (km : Int)) = true := by
        rcases kn hp with h | h
        · omega
        · simp; omega
      conv => whnf
      repeat' ((first | ((with_reducible refine regx_of ?_ ?_); (· decide +kernel)) | ((with_reducible refine growx_pre ?_ ?_); (· exact ⟨_, rfl⟩)) | (with_reducible first | refine condm_b ‹_› ?_ | refine needm_of ‹_› ?_ | refine forceL_fv ‹_› ?_ | refine forceL_rfv ‹_› ?_ | refine forceNm_of ?_ | refine forceA_of ?_) | ((with_reducible refine needm_of ?_ ?_); (· first | with_reducible assumption | exact decide_eq_true (by omega) | exact mkOK_of (by decide) | decide +kernel | (refine decide_eq_true ?_; simp (disch := omega) only [i64w]; omega))) | (with_reducible first | refine needm_of (fv_lenL ‹_› ‹_›) ?_ | refine optm_var (fv_strL ‹_› ‹_›) (fun s hs => ?_)) | ((with_reducible apply optm_of); (· first | exact g0 | exact g1)) | ((with_reducible refine condm_pos ?_ ?_); (· rfl)) | ((with_reducible refine condm_neg ?_ ?_); (· rfl)) | fail) <;> (conv => whnf))
      refine Go.Eng.Fn.frame [] (by rfl) (by exact trivial) (by rfl) (kL ?_)
      conv => whnf
      repeat' ((first | ((with_reducible refine regx_of ?_ ?_); (· decide +kernel)) | ((with_reducible refine growx_pre ?_ ?_); (· exact ⟨_, rfl⟩)) | (with_reducible first | refine condm_b ‹_› ?_ | refine needm_of ‹_› ?_ | refine forceL_fv ‹_› ?_ | refine forceL_rfv ‹_› ?_ | refine forceNm_of ?_ | refine forceA_of ?_) | ((with_reducible refine needm_of ?_ ?_); (· first | with_reducible assumption | exact decide_eq_true (by omega) | exact mkOK_of (by decide) | decide +kernel | (refine decide_eq_true ?_; simp (disch := omega) only [i64w]; omega))) | (with_reducible first | refine needm_of (fv_lenL ‹_› ‹_›) ?_ | refine optm_var (fv_strL ‹_› ‹_›) (fun s hs => ?_)) | ((with_reducible apply optm_of); (· first | exact g0 | exact g1)) | ((with_reducible refine condm_pos ?_ ?_); (· rfl)) | ((with_reducible refine condm_neg ?_ ?_); (· rfl)) | fail) <;> (conv => whnf))
      refine Go.Eng.Fn.frame [] (by rfl) (by exact trivial) (by rfl) (kM ?_)
      conv => whnf
      repeat' ((first | ((with_reducible refine regx_of ?_ ?_); (· decide +kernel)) | ((with_reducible refine growx_pre ?_ ?_); (· exact ⟨_, rfl⟩)) | (with_reducible first | refine condm_b ‹_› ?_ | refine needm_of ‹_› ?_ | refine forceL_fv ‹_› ?_ | refine forceL_rfv ‹_› ?_ | refine forceNm_of ?_ | refine forceA_of ?_) | ((with_reducible refine needm_of ?_ ?_); (· first | with_reducible assumption | exact decide_eq_true (by omega) | exact mkOK_of (by decide) | decide +kernel | (refine decide_eq_true ?_; simp (disch := omega) only [i64w]; omega))) | (with_reducible first | refine needm_of (fv_lenL ‹_› ‹_›) ?_ | refine optm_var (fv_strL ‹_› ‹_›) (fun s hs => ?_)) | ((with_reducible apply optm_of); (· first | exact g0 | exact g1)) | ((with_reducible refine condm_pos ?_ ?_); (· rfl)) | ((with_reducible refine condm_neg ?_ ?_); (· rfl)) | fail) <;> (conv => whnf))
      exact keepOf (v₀ := .t [.a (.str (bs [])), .a (.int .i64 120)]) [] [] rfl trivial rfl hK
set_option maxHeartbeats 1000000 in
theorem belowB (hT : Tabs ro) (L M : List UInt8) {K : V → Hp → Prop} (hK : K (.a (.bool (blB L M))) []) :
    Go.Eng.Fn Tryd.prog ro 13 [.a (.str (bs L)), .a (.str (bs M))] [] K := by
  have g0 := True.intro
  have g1 := True.intro
  have kJ := @joinB ro hT L M
  have hb := blB_iff L M
  have hz := law_errs L M
  obtain ⟨b, hbb⟩ : ∃ b, b = blB L M := ⟨_, rfl⟩
  obtain ⟨⟨u, e⟩, hue⟩ : ∃ p, p = jnB L M := ⟨_, rfl⟩
  rw [← hbb] at hK hb
  rw [← hue] at kJ hb hz
  refine Go.Eng.Fn.weak ?_
  refine Go.Eng.Fn.of_code (gOf []) Tryd.func13 rfl (Nat.le_of_ble_eq_true rfl) ?_
  have c1 : e = 0 → ((bs u).data.toList == (bs M).data.toList) = b := fun h => by
    rw [beqL]
    cases b with
    | true => exact decide_eq_true ((hb.1 rfl).2)
    | false => exact decide_eq_false (fun h' => by have := hb.2 ⟨h, h'⟩; cases this)
  generalize bs L = x at *
  generalize bs M = y at *
  generalize bs u = z at *
  by_cases h : e = 0
  · have c2 := c1 h
    have c0 : (e == 0) = true := by simp [h]
    conv => whnf
    repeat' ((first | ((with_reducible refine regx_of ?_ ?_); (· decide +kernel)) | ((with_reducible refine growx_pre ?_ ?_); (· exact ⟨_, rfl⟩)) | (with_reducible first | refine condm_b ‹_› ?_ | refine needm_of ‹_› ?_ | refine forceL_fv ‹_› ?_ | refine forceL_rfv ‹_› ?_ | refine forceNm_of ?_ | refine forceA_of ?_) | ((with_reducible refine needm_of ?_ ?_); (· first | with_reducible assumption | exact decide_eq_true (by omega) | exact mkOK_of (by decide) | decide +kernel | (refine decide_eq_true ?_; simp (disch := omega) only [i64w]; omega))) | (with_reducible first | refine needm_of (fv_lenL ‹_› ‹_›) ?_ | refine optm_var (fv_strL ‹_› ‹_›) (fun s hs => ?_)) | ((with_reducible apply optm_of); (· first | exact g0 | exact g1)) | ((with_reducible refine condm_pos ?_ ?_); (· rfl)) | ((with_reducible refine condm_neg ?_ ?_); (· rfl)) | fail) <;> (conv => whnf))
    refine Go.Eng.Fn.frame [] (by rfl) (by exact trivial) (by rfl) (kJ ?_)
    conv => whnf
    repeat' ((first | ((with_reducible refine regx_of ?_ ?_); (· decide +kernel)) | ((with_reducible refine growx_pre ?_ ?_); (· exact ⟨_, rfl⟩)) | (with_reducible first | refine condm_b ‹_› ?_ | refine needm_of ‹_› ?_ | refine forceL_fv ‹_› ?_ | refine forceL_rfv ‹_› ?_ | refine forceNm_of ?_ | refine forceA_of ?_) | ((with_reducible refine needm_of ?_ ?_); (· first | with_reducible assumption | exact decide_eq_true (by omega) | exact mkOK_of (by decide) | decide +kernel | (refine decide_eq_true ?_; simp (disch := omega) only [i64w]; omega))) | (with_reducible first | refine needm_of (fv_lenL ‹_› ‹_›) ?_ | refine optm_var (fv_strL ‹_› ‹_›) (fun s hs => ?_)) | ((with_reducible apply optm_of); (· first | exact g0 | exact g1)) | ((with_reducible refine condm_pos ?_ ?_); (· rfl)) | ((with_reducible refine condm_neg ?_ ?_); (· rfl)) | fail) <;> (conv => whnf))
    exact keepOf (v₀ := .a (.bool b)) [] [] (congrArg (fun b => V.a (.bool b)) c2) trivial rfl hK
  · have c0 : (e == 0) = false := by simp [h]
    have hbf : b = false := by
      cases b with
      | true => exact absurd (hb.1 rfl).1 h
      | false => rfl
    subst hbf
    conv => whnf
    repeat' ((first | ((with_reducible refine regx_of ?_ ?_); (· decide +kernel)) | ((with_reducible refine growx_pre ?_ ?_); (· exact ⟨_, rfl⟩)) | (with_reducible first | refine condm_b ‹_› ?_ | refine needm_of ‹_› ?_ | refine forceL_fv ‹_› ?_ | refine forceL_rfv ‹_› ?_ | refine forceNm_of ?_ | refine forceA_of ?_) | ((with_reducible refine needm_of ?_ ?_); (· first | with_reducible assumption | exact decide_eq_true (by omega) | exact mkOK_of (by decide) | decide +kernel | (refine decide_eq_true ?_; simp (disch := omega) only [i64w]; omega))) | (with_reducible first | refine needm_of (fv_lenL ‹_› ‹_›) ?_ | refine optm_var (fv_strL ‹_› ‹_›) (fun s hs => ?_)) | ((with_reducible apply optm_of); (· first | exact g0 | exact g1)) | ((with_reducible refine condm_pos ?_ ?_); (· rfl)) | ((with_reducible refine condm_neg ?_ ?_); (· rfl)) | fail) <;> (conv => whnf))
    refine Go.Eng.Fn.frame [] (by rfl) (by exact trivial) (by rfl) (kJ ?_)
    conv => whnf
    repeat' ((first | ((with_reducible refine regx_of ?_ ?_); (· decide +kernel)) | ((with_reducible refine growx_pre ?_ ?_); (· exact ⟨_, rfl⟩)) | (with_reducible first | refine condm_b ‹_› ?_ | refine needm_of ‹_› ?_ | refine forceL_fv ‹_› ?_ | refine forceL_rfv ‹_› ?_ | refine forceNm_of ?_ | refine forceA_of ?_) | ((with_reducible refine needm_of ?_ ?_); (· first | with_reducible assumption | exact decide_eq_true (by omega) | exact mkOK_of (by decide) | decide +kernel | (refine decide_eq_true ?_; simp (disch := omega) only [i64w]; omega))) | (with_reducible first | refine needm_of (fv_lenL ‹_› ‹_›) ?_ | refine optm_var (fv_strL ‹_› ‹_›) (fun s hs => ?_)) | ((with_reducible apply optm_of); (· first | exact g0 | exact g1)) | ((with_reducible refine condm_pos ?_ ?_); (· rfl)) | ((with_reducible refine condm_neg ?_ ?_); (· rfl)) | fail) <;> (conv => whnf))
    exact keepOf (v₀ := .a (.bool false)) [] [] rfl trivial rfl hK
end
end Go.Proofs.YtimddbgnaeeggaaDoor.KD
