import Derived.Test.YtefimkcfaoabpaaTB
namespace Go.Proofs.Ytefimkcfaoabpaa.TA
open Go.Eng
set_option maxRecDepth 100000
section
variable {ro : Addr → A → Prop} (a b c d e t n : Int) (o : Bool) (k0 k1 k2 k3 k4 k5 k6 : Int) (k7 : Bool) (k8 : ByteArray)
variable (g0 g1 g2 g3 g4 g5 g6 : Int) (g7 : Bool) (g8 : ByteArray)
set_option maxHeartbeats 0 in
theorem take10 (hn : 0 ≤ n ∧ n < 4294967296) (hg : 0 ≤ g6 ∧ g6 < 4294967296) {K : V → Hp → Prop}
    (hk0 : tk a b c d e t n o g0 g1 g2 g3 g4 g5 g6 g7 = 0 → K (.t [.a (.str ⟨#[]⟩), .a (.bool false), .g nofc, .a (.bool false)]) [.cells (st a b c d e t n o k0 k1 k2 k3 k4 k5 k6 k7 k8) 36 false])
    (hk1 : tk a b c d e t n o g0 g1 g2 g3 g4 g5 g6 g7 = 1 → K (.t [.a (.str ⟨#[]⟩), .a (.bool false), .g (fc k0 k1 k2 k3 k4 k5 k6 k7 k8), .a (.bool true)]) [.cells (st a b c d e t n o k0 k1 k2 k3 k4 k5 k6 k7 k8) 36 false])
    (hk2 : tk a b c d e t n o g0 g1 g2 g3 g4 g5 g6 g7 = 2 → K (.t [.a (.str g8), .a (.bool true), .g nofc, .a (.bool false)]) [.cells (st a b c d e t g6 true k0 k1 k2 k3 k4 k5 k6 k7 k8) 36 false]) :
    Go.Eng.Fn Try.prog ro 10 [.a (.ptr 0 0), .g (fc g0 g1 g2 g3 g4 g5 g6 g7 g8)] [.cells (st a b c d e t n o k0 k1 k2 k3 k4 k5 k6 k7 k8) 36 false] K := by
  have hwt : IntKind.u64.wrap n = n := wrap64u _ (by omega) (by omega)
  have hwv : IntKind.u64.wrap g6 = g6 := wrap64u _ (by omega) (by omega)
  have hwu : IntKind.u64.wrap (n + 1) = n + 1 := wrap64u _ (by omega) (by omega)
  refine Go.Eng.Fn.weak ?_
  refine Go.Eng.Fn.of_code h10 Try.func10 rfl (Nat.le_of_ble_eq_true rfl) ?_
  conv => whnf
  repeat' (first
      | ((with_reducible refine regx_of ?_ ?_); (· decide +kernel); conv => whnf)
      | ((with_reducible refine growx_pre ?_ ?_); (· exact ⟨_, rfl⟩); conv => whnf)
      | ((with_reducible refine needm_of ?_ ?_); (· first | assumption | exact decide_eq_true (by omega) | decide +kernel | (refine decide_eq_true ?_; simp (disch := omega) only [i64w]; omega)); conv => whnf)
      | ((with_reducible refine condm_pos ?_ ?_); (· assumption); conv => whnf)
      | ((with_reducible refine condm_neg ?_ ?_); (· assumption); conv => whnf)
      | ((with_reducible refine forceL_fv (by assumption) ?_); conv => whnf)
      | ((with_reducible refine forceL_rfv (by assumption) ?_); conv => whnf)
      | ((with_reducible refine forceNm_of ?_); conv => whnf)
      | ((with_reducible refine needm_of (fv_lenL (by assumption) (by assumption)) ?_); conv => whnf)
      | ((with_reducible refine optm_var (fv_strL (by assumption) (by assumption)) (fun s hs => ?_)); conv => whnf)
      | ((with_reducible refine forceA_of ?_); conv => whnf)
      | ((with_reducible refine condm_of (fun h => ?_) (fun h => ?_)) <;> (conv => whnf))
      | ((with_reducible refine And.intro ?_ ?_) <;> (conv => whnf))
      | (refine ⟨_, EqAgg.of rfl, ?_⟩; conv => whnf)
      | (refine ⟨_, _, [0], ?_, ?_, ?_, hk0 ?_⟩; (· rfl); (· exact ⟨rfl, trivial⟩); (· rfl); clear hk0 hk1 hk2; unfold tk oursq; grind)
      | (refine ⟨_, _, [0], ?_, ?_, ?_, hk1 ?_⟩; (· rfl); (· exact ⟨rfl, trivial⟩); (· rfl); clear hk0 hk1 hk2; unfold tk oursq; grind)
      | (refine ⟨_, _, [0], ?_, ?_, ?_, hk2 ?_⟩; (· rfl); (· exact ⟨rfl, trivial⟩); (· rfl); clear hk0 hk1 hk2; unfold tk oursq; grind))
set_option maxHeartbeats 0 in
theorem frame27 (seq : Int) (ans : Bool) (body : ByteArray) {K : V → Hp → Prop}
    (hk : K (.g (fc d e a b c t seq ans body)) [.cells (st a b c d e t n o k0 k1 k2 k3 k4 k5 k6 k7 k8) 67 false]) :
    Go.Eng.Fn Try.prog ro 27 [.a (.ptr 0 0), .a (.int .u32 seq), .a (.bool ans), .a (.str body)] [.cells (st a b c d e t n o k0 k1 k2 k3 k4 k5 k6 k7 k8) 67 false] K := by
  refine Go.Eng.Fn.weak ?_
  refine Go.Eng.Fn.of_code h27 Try.func27 rfl (Nat.le_of_ble_eq_true rfl) ?_
  conv => whnf
  repeat' (first
      | ((with_reducible refine regx_of ?_ ?_); (· decide +kernel); conv => whnf)
      | ((with_reducible refine growx_pre ?_ ?_); (· exact ⟨_, rfl⟩); conv => whnf)
      | ((with_reducible refine needm_of ?_ ?_); (· first | assumption | exact decide_eq_true (by omega) | decide +kernel | (refine decide_eq_true ?_; simp (disch := omega) only [i64w]; omega)); conv => whnf)
      | ((with_reducible refine condm_pos ?_ ?_); (· assumption); conv => whnf)
      | ((with_reducible refine condm_neg ?_ ?_); (· assumption); conv => whnf)
      | ((with_reducible refine forceL_fv (by assumption) ?_); conv => whnf)
      | ((with_reducible refine forceL_rfv (by assumption) ?_); conv => whnf)
      | ((with_reducible refine forceNm_of ?_); conv => whnf)
      | ((with_reducible refine needm_of (fv_lenL (by assumption) (by assumption)) ?_); conv => whnf)
      | ((with_reducible refine optm_var (fv_strL (by assumption) (by assumption)) (fun s hs => ?_)); conv => whnf)
      | ((with_reducible refine forceA_of ?_); conv => whnf)
      | (refine ⟨_, _, [0], ?_, ?_, ?_, hk⟩; (· rfl); (· exact ⟨rfl, trivial⟩); (· rfl)))
set_option maxHeartbeats 0 in
theorem reply11 (body : ByteArray) {K : V → Hp → Prop}
    (hk0 : o = false → K (.t [.g nofc, .a (.int .i64 5)]) [.cells (st a b c d e t n o k0 k1 k2 k3 k4 k5 k6 k7 k8) 67 false])
    (hk1 : o = true → K (.t [.g (fc d e a b c t n true body), .a (.int .i64 0)]) [.cells (st a b c d e t n false d e a b c t n true body) 67 false]) :
    Go.Eng.Fn Try.prog ro 11 [.a (.ptr 0 0), .a (.str body)] [.cells (st a b c d e t n o k0 k1 k2 k3 k4 k5 k6 k7 k8) 67 false] K := by
  cases o
  all_goals
    simp only [forall_const, false_imp_iff, reduceCtorEq] at hk0 hk1
    refine Go.Eng.Fn.weak ?_
    refine Go.Eng.Fn.of_code h11 Try.func11 rfl (Nat.le_of_ble_eq_true rfl) ?_
    conv => whnf
    repeat' (first
      | ((with_reducible refine regx_of ?_ ?_); (· decide +kernel); conv => whnf)
      | ((with_reducible refine growx_pre ?_ ?_); (· exact ⟨_, rfl⟩); conv => whnf)
      | ((with_reducible refine needm_of ?_ ?_); (· first | assumption | exact decide_eq_true (by omega) | decide +kernel | (refine decide_eq_true ?_; simp (disch := omega) only [i64w]; omega)); conv => whnf)
      | ((with_reducible refine condm_pos ?_ ?_); (· assumption); conv => whnf)
      | ((with_reducible refine condm_neg ?_ ?_); (· assumption); conv => whnf)
      | ((with_reducible refine forceL_fv (by assumption) ?_); conv => whnf)
      | ((with_reducible refine forceL_rfv (by assumption) ?_); conv => whnf)
      | ((with_reducible refine forceNm_of ?_); conv => whnf)
      | ((with_reducible refine needm_of (fv_lenL (by assumption) (by assumption)) ?_); conv => whnf)
      | ((with_reducible refine optm_var (fv_strL (by assumption) (by assumption)) (fun s hs => ?_)); conv => whnf)
      | ((with_reducible refine forceA_of ?_); conv => whnf)
      | (refine Fn.frame [0] ?_ ?_ ?_ (frame27 a b c d e t n false k0 k1 k2 k3 k4 k5 k6 k7 k8 n true body ?_); (· rfl); (· exact ⟨rfl, trivial⟩); (· rfl); conv => whnf)
      | (refine ⟨_, _, [0], ?_, ?_, ?_, hk0⟩; (· rfl); (· exact ⟨rfl, trivial⟩); (· rfl))
      | (refine ⟨_, _, [0], ?_, ?_, ?_, hk1⟩; (· rfl); (· exact ⟨rfl, trivial⟩); (· rfl)))
set_option maxHeartbeats 0 in
theorem reply12 (body : ByteArray) {K : V → Hp → Prop}
    (hk0 : o = false → K (.t [.g nofc, .a (.int .i64 5)]) [.cells (st a b c d e t n o k0 k1 k2 k3 k4 k5 k6 k7 k8) 36 false])
    (hk1 : o = true → K (.t [.g (fc d e a b c t n true body), .a (.int .i64 0)]) [.cells (st a b c d e t n false d e a b c t n true body) 36 false]) :
    Go.Eng.Fn Try.prog ro 12 [.a (.ptr 0 0), .a (.str body)] [.cells (st a b c d e t n o k0 k1 k2 k3 k4 k5 k6 k7 k8) 36 false] K := by
  cases o
  all_goals
    simp only [forall_const, false_imp_iff, reduceCtorEq] at hk0 hk1
    refine Go.Eng.Fn.weak ?_
    refine Go.Eng.Fn.of_code h12 Try.func12 rfl (Nat.le_of_ble_eq_true rfl) ?_
    conv => whnf
    repeat' (first
      | ((with_reducible refine regx_of ?_ ?_); (· decide +kernel); conv => whnf)
      | ((with_reducible refine growx_pre ?_ ?_); (· exact ⟨_, rfl⟩); conv => whnf)
      | ((with_reducible refine needm_of ?_ ?_); (· first | assumption | exact decide_eq_true (by omega) | decide +kernel | (refine decide_eq_true ?_; simp (disch := omega) only [i64w]; omega)); conv => whnf)
      | ((with_reducible refine condm_pos ?_ ?_); (· assumption); conv => whnf)
      | ((with_reducible refine condm_neg ?_ ?_); (· assumption); conv => whnf)
      | ((with_reducible refine forceL_fv (by assumption) ?_); conv => whnf)
      | ((with_reducible refine forceL_rfv (by assumption) ?_); conv => whnf)
      | ((with_reducible refine forceNm_of ?_); conv => whnf)
      | ((with_reducible refine needm_of (fv_lenL (by assumption) (by assumption)) ?_); conv => whnf)
      | ((with_reducible refine optm_var (fv_strL (by assumption) (by assumption)) (fun s hs => ?_)); conv => whnf)
      | ((with_reducible refine forceA_of ?_); conv => whnf)
      | (refine ⟨_, _, [0], ?_, ?_, ?_, hk0⟩; (· rfl); (· exact ⟨rfl, trivial⟩); (· rfl))
      | (refine ⟨_, _, [0], ?_, ?_, ?_, hk1⟩; (· rfl); (· exact ⟨rfl, trivial⟩); (· rfl)))
set_option maxHeartbeats 0 in
theorem last13 {K : V → Hp → Prop} (hk : K (.a (.int .u32 n)) [.cells (st a b c d e t n o k0 k1 k2 k3 k4 k5 k6 k7 k8) 67 false]) :
    Go.Eng.Fn Try.prog ro 13 [.a (.ptr 0 0)] [.cells (st a b c d e t n o k0 k1 k2 k3 k4 k5 k6 k7 k8) 67 false] K := by
  refine Go.Eng.Fn.weak ?_
  refine Go.Eng.Fn.of_code (gOf []) Try.func13 rfl (Nat.le_of_ble_eq_true rfl) ?_
  conv => whnf
  repeat' (first
      | ((with_reducible refine regx_of ?_ ?_); (· decide +kernel); conv => whnf)
      | ((with_reducible refine growx_pre ?_ ?_); (· exact ⟨_, rfl⟩); conv => whnf)
      | ((with_reducible refine needm_of ?_ ?_); (· first | assumption | exact decide_eq_true (by omega) | decide +kernel | (refine decide_eq_true ?_; simp (disch := omega) only [i64w]; omega)); conv => whnf)
      | ((with_reducible refine condm_pos ?_ ?_); (· assumption); conv => whnf)
      | ((with_reducible refine condm_neg ?_ ?_); (· assumption); conv => whnf)
      | ((with_reducible refine forceL_fv (by assumption) ?_); conv => whnf)
      | ((with_reducible refine forceL_rfv (by assumption) ?_); conv => whnf)
      | ((with_reducible refine forceNm_of ?_); conv => whnf)
      | ((with_reducible refine needm_of (fv_lenL (by assumption) (by assumption)) ?_); conv => whnf)
      | ((with_reducible refine optm_var (fv_strL (by assumption) (by assumption)) (fun s hs => ?_)); conv => whnf)
      | ((with_reducible refine forceA_of ?_); conv => whnf)
      | (refine ⟨_, _, [0], ?_, ?_, ?_, hk⟩; (· rfl); (· exact ⟨rfl, trivial⟩); (· rfl)))
set_option maxHeartbeats 0 in
theorem new7 {K : V → Hp → Prop} (hk : K (.a (.ptr 0 0)) [.cells (st a b c d e t 0 false 0 0 0 0 0 0 0 false ⟨#[]⟩) 67 false]) :
    Go.Eng.Fn Try.prog ro 7 [.g [.int .u8 a, .int .u16 b, .int .u32 c], .a (.int .u8 d), .a (.int .u8 e), .a (.int .u64 t)] [] K := by
  refine Go.Eng.Fn.weak ?_
  refine Go.Eng.Fn.of_code (gOf []) Try.func7 rfl (Nat.le_of_ble_eq_true rfl) ?_
  conv => whnf
  repeat' (first
      | ((with_reducible refine regx_of ?_ ?_); (· decide +kernel); conv => whnf)
      | ((with_reducible refine growx_pre ?_ ?_); (· exact ⟨_, rfl⟩); conv => whnf)
      | ((with_reducible refine needm_of ?_ ?_); (· first | assumption | exact decide_eq_true (by omega) | decide +kernel | (refine decide_eq_true ?_; simp (disch := omega) only [i64w]; omega)); conv => whnf)
      | ((with_reducible refine condm_pos ?_ ?_); (· assumption); conv => whnf)
      | ((with_reducible refine condm_neg ?_ ?_); (· assumption); conv => whnf)
      | ((with_reducible refine forceL_fv (by assumption) ?_); conv => whnf)
      | ((with_reducible refine forceL_rfv (by assumption) ?_); conv => whnf)
      | ((with_reducible refine forceNm_of ?_); conv => whnf)
      | ((with_reducible refine needm_of (fv_lenL (by assumption) (by assumption)) ?_); conv => whnf)
      | ((with_reducible refine optm_var (fv_strL (by assumption) (by assumption)) (fun s hs => ?_)); conv => whnf)
      | ((with_reducible refine forceA_of ?_); conv => whnf)
      | (refine ⟨_, _, [1], ?_, ?_, ?_, hk⟩; (· rfl); (· exact ⟨rfl, trivial⟩); (· rfl)))
end
end Go.Proofs.Ytefimkcfaoabpaa.TA
