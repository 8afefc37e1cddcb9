import Derived.Test.YtefimkcfaoabpaaTC
namespace Go.Proofs.Ytefimkcfaoabpaa.TA
open Go.Eng
set_option maxRecDepth 100000
@[reducible] def sa (a b c d e t w r q : Int) (bd : ByteArray) (at_ go se : Int) (ov : Bool) : List A :=
  [.int .u8 a, .int .u16 b, .int .u32 c, .int .u8 d, .int .u8 e, .int .u64 t, .int .i64 w, .int .i64 r, .int .u32 q, .str bd, .int .i64 at_, .int .i64 go, .int .i64 se, .bool ov]
@[reducible] def sr (a b c d e w r t q : Int) (wt ov : Bool) (bd : ByteArray) (go at_ se : Int) : List A :=
  [.int .u8 a, .int .u16 b, .int .u32 c, .int .u8 d, .int .u8 e, .int .i64 w, .int .i64 r, .int .u64 t, .int .u32 q, .bool wt, .bool ov, .str bd, .int .i64 go, .int .i64 at_, .int .i64 se]
section
variable {ro : Addr → A → Prop} (a b c d e t w r q : Int) (bd : ByteArray) (at_ go se : Int) (ov wt : Bool)
variable (g0 g1 g2 g3 g4 g5 g6 : Int) (g7 : Bool) (g8 : ByteArray)
set_option maxHeartbeats 0 in
theorem oursA {K : V → Hp → Prop} (hk : ∀ x, x = oursq a b c d e g0 g1 g2 g3 g4 → K (.a (.bool x)) [.cells (sa a b c d e t w r q bd at_ go se ov) 71 false]) :
    Go.Eng.Fn Try.prog ro 26 [.a (.ptr 0 0), .g (fc g0 g1 g2 g3 g4 g5 g6 g7 g8)] [.cells (sa a b c d e t w r q bd at_ go se ov) 71 false] K := by
  refine Go.Eng.Fn.weak ?_
  refine Go.Eng.Fn.of 1 h26 rfl Try.func26 rfl (Nat.le_of_ble_eq_true rfl) ?_
  conv => whnf
  repeat' (first
      | ((with_reducible refine regx_of ?_ ?_); (· decide +kernel); conv => whnf)
      | ((with_reducible refine growx_pre ?_ ?_); (· exact ⟨_, rfl⟩); conv => whnf)
      | ((with_reducible refine needm_of ?_ ?_); (· first | assumption | exact decide_eq_true (by omega) | decide +kernel | (refine decide_eq_true ?_; simp (disch := omega) only [i64w]; omega)); conv => whnf)
      | ((with_reducible refine condm_pos ?_ ?_); (· assumption); conv => whnf)
      | ((with_reducible refine condm_neg ?_ ?_); (· assumption); conv => whnf)
      | ((with_reducible refine forceL_fv (by assumption) ?_); conv => whnf)
      | ((with_reducible refine forceL_rfv (by assumption) ?_); conv => whnf)
      | ((with_reducible refine forceNm_of ?_); conv => whnf)
      | ((with_reducible refine needm_of (fv_lenL (by assumption) (by assumption)) ?_); conv => whnf)
      | ((with_reducible refine optm_var (fv_strL (by assumption) (by assumption)) (fun s hs => ?_)); conv => whnf)
      | ((with_reducible refine forceA_of ?_); conv => whnf)
      | ((with_reducible refine condm_of (fun h => ?_) (fun h => ?_)) <;> (conv => whnf))
      | ((with_reducible refine And.intro ?_ ?_) <;> (conv => whnf))
      | (refine ⟨_, EqAgg.of rfl, ?_⟩; conv => whnf)
      | (refine ⟨_, _, [0], ?_, ?_, ?_, hk ?_ ?_⟩; (· rfl); (· exact ⟨rfl, trivial⟩); (· rfl); unfold oursq; grind))
set_option maxHeartbeats 0 in
theorem frameA (seq : Int) (ans : Bool) (body : ByteArray) {K : V → Hp → Prop}
    (hk : K (.g (fc d e a b c t seq ans body)) [.cells (sa a b c d e t w r q bd at_ go se ov) 71 false]) :
    Go.Eng.Fn Try.prog ro 27 [.a (.ptr 0 0), .a (.int .u32 seq), .a (.bool ans), .a (.str body)] [.cells (sa a b c d e t w r q bd at_ go se ov) 71 false] K := by
  refine Go.Eng.Fn.weak ?_
  refine Go.Eng.Fn.of 1 h27 rfl Try.func27 rfl (Nat.le_of_ble_eq_true rfl) ?_
  conv => whnf
  repeat' (first
      | ((with_reducible refine regx_of ?_ ?_); (· decide +kernel); conv => whnf)
      | ((with_reducible refine growx_pre ?_ ?_); (· exact ⟨_, rfl⟩); conv => whnf)
      | ((with_reducible refine needm_of ?_ ?_); (· first | assumption | exact decide_eq_true (by omega) | decide +kernel | (refine decide_eq_true ?_; simp (disch := omega) only [i64w]; omega)); conv => whnf)
      | ((with_reducible refine condm_pos ?_ ?_); (· assumption); conv => whnf)
      | ((with_reducible refine condm_neg ?_ ?_); (· assumption); conv => whnf)
      | ((with_reducible refine forceL_fv (by assumption) ?_); conv => whnf)
      | ((with_reducible refine forceL_rfv (by assumption) ?_); conv => whnf)
      | ((with_reducible refine forceNm_of ?_); conv => whnf)
      | ((with_reducible refine needm_of (fv_lenL (by assumption) (by assumption)) ?_); conv => whnf)
      | ((with_reducible refine optm_var (fv_strL (by assumption) (by assumption)) (fun s hs => ?_)); conv => whnf)
      | ((with_reducible refine forceA_of ?_); conv => whnf)
      | (refine ⟨_, _, [0], ?_, ?_, ?_, hk⟩; (· rfl); (· exact ⟨rfl, trivial⟩); (· rfl)))
set_option maxHeartbeats 0 in
theorem frame29 {K : V → Hp → Prop} (hk : K (.g (fc d e a b c t q false bd)) [.cells (sr a b c d e w r t q wt ov bd go at_ se) 58 false]) :
    Go.Eng.Fn Try.prog ro 29 [.a (.ptr 0 0)] [.cells (sr a b c d e w r t q wt ov bd go at_ se) 58 false] K := by
  refine Go.Eng.Fn.weak ?_
  refine Go.Eng.Fn.of 1 h29 rfl Try.func29 rfl (Nat.le_of_ble_eq_true rfl) ?_
  conv => whnf
  repeat' (first
      | ((with_reducible refine regx_of ?_ ?_); (· decide +kernel); conv => whnf)
      | ((with_reducible refine growx_pre ?_ ?_); (· exact ⟨_, rfl⟩); conv => whnf)
      | ((with_reducible refine needm_of ?_ ?_); (· first | assumption | exact decide_eq_true (by omega) | decide +kernel | (refine decide_eq_true ?_; simp (disch := omega) only [i64w]; omega)); conv => whnf)
      | ((with_reducible refine condm_pos ?_ ?_); (· assumption); conv => whnf)
      | ((with_reducible refine condm_neg ?_ ?_); (· assumption); conv => whnf)
      | ((with_reducible refine forceL_fv (by assumption) ?_); conv => whnf)
      | ((with_reducible refine forceL_rfv (by assumption) ?_); conv => whnf)
      | ((with_reducible refine forceNm_of ?_); conv => whnf)
      | ((with_reducible refine needm_of (fv_lenL (by assumption) (by assumption)) ?_); conv => whnf)
      | ((with_reducible refine optm_var (fv_strL (by assumption) (by assumption)) (fun s hs => ?_)); conv => whnf)
      | ((with_reducible refine forceA_of ?_); conv => whnf)
      | (refine ⟨_, _, [0], ?_, ?_, ?_, hk⟩; (· rfl); (· exact ⟨rfl, trivial⟩); (· rfl)))
set_option maxHeartbeats 0 in
theorem send28 {K : V → Hp → Prop} (hk : ∀ x y, x = IntKind.i64.wrap (at_ + 1) → y = IntKind.i64.wrap (se + 1) → K (.g (fc d e a b c t q false bd)) [.cells (sa a b c d e t w r q bd x 0 y ov) 71 false]) :
    Go.Eng.Fn Try.prog ro 28 [.a (.ptr 0 0)] [.cells (sa a b c d e t w r q bd at_ go se ov) 71 false] K := by
  refine Go.Eng.Fn.weak ?_
  refine Go.Eng.Fn.of 1 h28 rfl Try.func28 rfl (Nat.le_of_ble_eq_true rfl) ?_
  conv => whnf
  repeat' (first
      | ((with_reducible refine regx_of ?_ ?_); (· decide +kernel); conv => whnf)
      | ((with_reducible refine growx_pre ?_ ?_); (· exact ⟨_, rfl⟩); conv => whnf)
      | ((with_reducible refine needm_of ?_ ?_); (· first | assumption | exact decide_eq_true (by omega) | decide +kernel | (refine decide_eq_true ?_; simp (disch := omega) only [i64w]; omega)); conv => whnf)
      | ((with_reducible refine condm_pos ?_ ?_); (· assumption); conv => whnf)
      | ((with_reducible refine condm_neg ?_ ?_); (· assumption); conv => whnf)
      | ((with_reducible refine forceL_fv (by assumption) ?_); conv => whnf)
      | ((with_reducible refine forceL_rfv (by assumption) ?_); conv => whnf)
      | ((with_reducible refine forceNm_of ?_); conv => whnf)
      | ((with_reducible refine needm_of (fv_lenL (by assumption) (by assumption)) ?_); conv => whnf)
      | ((with_reducible refine optm_var (fv_strL (by assumption) (by assumption)) (fun s hs => ?_)); conv => whnf)
      | ((with_reducible refine forceA_of ?_); conv => whnf)
      | (refine Fn.frame [0] (by rfl) (by exact ⟨rfl, trivial⟩) (by rfl) (frameA _ _ _ _ _ _ _ _ _ _ _ _ _ _ _ _ _ ?_); conv => whnf)
      | (refine ⟨_, _, [0], ?_, ?_, ?_, hk _ _ rfl rfl⟩; (· rfl); (· exact ⟨rfl, trivial⟩); (· rfl)))
set_option maxHeartbeats 0 in
theorem ask16 (body : ByteArray) {K : V → Hp → Prop}
    (hk1 : ov = true → K (.t [.g nofc, .a (.int .i64 5)]) [.cells (sa a b c d e t w r q bd at_ go se ov) 71 false])
    (hk2 : ov = false → 0 < at_ → K (.t [.g nofc, .a (.int .i64 250)]) [.cells (sa a b c d e t w r q bd at_ go se ov) 71 false])
    (hk3 : ov = false → at_ ≤ 0 → q = 4294967295 → K (.t [.g nofc, .a (.int .i64 101)]) [.cells (sa a b c d e t w r q bd at_ go se ov) 71 false])
    (hk4 : ov = false → at_ ≤ 0 → q ≠ 4294967295 → ∀ z x y, z = IntKind.u32.wrap (q + 1) → x = IntKind.i64.wrap (at_ + 1) → y = IntKind.i64.wrap (se + 1) → K (.t [.g (fc d e a b c t z false body), .a (.int .i64 0)]) [.cells (sa a b c d e t w r z body x 0 y ov) 71 false]) :
    Go.Eng.Fn Try.prog ro 16 [.a (.ptr 0 0), .a (.str body)] [.cells (sa a b c d e t w r q bd at_ go se ov) 71 false] K := by
  refine Go.Eng.Fn.weak ?_
  refine Go.Eng.Fn.of 1 (gOf []) rfl Try.func16 rfl (Nat.le_of_ble_eq_true rfl) ?_
  conv => whnf
  repeat' (first
      | ((with_reducible refine regx_of ?_ ?_); (· decide +kernel); conv => whnf)
      | ((with_reducible refine growx_pre ?_ ?_); (· exact ⟨_, rfl⟩); conv => whnf)
      | ((with_reducible refine needm_of ?_ ?_); (· first | assumption | exact decide_eq_true (by omega) | decide +kernel | (refine decide_eq_true ?_; simp (disch := omega) only [i64w]; omega)); conv => whnf)
      | ((with_reducible refine condm_pos ?_ ?_); (· assumption); conv => whnf)
      | ((with_reducible refine condm_neg ?_ ?_); (· assumption); conv => whnf)
      | ((with_reducible refine forceL_fv (by assumption) ?_); conv => whnf)
      | ((with_reducible refine forceL_rfv (by assumption) ?_); conv => whnf)
      | ((with_reducible refine forceNm_of ?_); conv => whnf)
      | ((with_reducible refine needm_of (fv_lenL (by assumption) (by assumption)) ?_); conv => whnf)
      | ((with_reducible refine optm_var (fv_strL (by assumption) (by assumption)) (fun s hs => ?_)); conv => whnf)
      | ((with_reducible refine forceA_of ?_); conv => whnf)
      | (refine Fn.frame [0] (by rfl) (by exact ⟨rfl, trivial⟩) (by rfl) (send28 _ _ _ _ _ _ _ _ _ _ _ _ _ _ (fun x y hx hy => ?_)); conv => whnf)
      | ((with_reducible refine condm_of (fun h => ?_) (fun h => ?_)) <;> (conv => whnf))
      | ((with_reducible refine And.intro ?_ ?_) <;> (conv => whnf))
      | (refine ⟨_, _, [0], ?_, ?_, ?_, hk1 ?_⟩; (· rfl); (· exact ⟨rfl, trivial⟩); (· rfl); simp_all; done)
      | (refine ⟨_, _, [0], ?_, ?_, ?_, hk2 ?_ ?_⟩; (· rfl); (· exact ⟨rfl, trivial⟩); (· rfl); (· simp_all; done); simp_all; done)
      | (refine ⟨_, _, [0], ?_, ?_, ?_, hk3 ?_ ?_ ?_⟩; (· rfl); (· exact ⟨rfl, trivial⟩); (· rfl); (· simp_all; done); (· simp_all; done); simp_all; done)
      | (refine ⟨_, _, [0], ?_, ?_, ?_, hk4 ?_ ?_ ?_ _ _ _ rfl ‹_› ‹_›⟩; (· rfl); (· exact ⟨rfl, trivial⟩); (· rfl); (· simp_all; done); (· simp_all; done); simp_all; done))
set_option maxHeartbeats 0 in
theorem ask17 (body : ByteArray) {K : V → Hp → Prop}
    (hk1 : ov = true → K (.t [.g nofc, .a (.int .i64 5)]) [.cells (sr a b c d e w r t q wt ov bd go at_ se) 58 false])
    (hk2 : ov = false → wt = true → K (.t [.g nofc, .a (.int .i64 250)]) [.cells (sr a b c d e w r t q wt ov bd go at_ se) 58 false])
    (hk3 : ov = false → wt = false → q = 4294967295 → K (.t [.g nofc, .a (.int .i64 101)]) [.cells (sr a b c d e w r t q wt ov bd go at_ se) 58 false])
    (hk4 : ov = false → wt = false → q ≠ 4294967295 → ∀ z y, z = IntKind.u32.wrap (q + 1) → y = IntKind.i64.wrap (se + 1) → K (.t [.g (fc d e a b c t z false body), .a (.int .i64 0)]) [.cells (sr a b c d e w r t z true ov body 0 1 y) 58 false]) :
    Go.Eng.Fn Try.prog ro 17 [.a (.ptr 0 0), .a (.str body)] [.cells (sr a b c d e w r t q wt ov bd go at_ se) 58 false] K := by
  refine Go.Eng.Fn.weak ?_
  refine Go.Eng.Fn.of 1 (gOf []) rfl Try.func17 rfl (Nat.le_of_ble_eq_true rfl) ?_
  conv => whnf
  repeat' (first
      | ((with_reducible refine regx_of ?_ ?_); (· decide +kernel); conv => whnf)
      | ((with_reducible refine growx_pre ?_ ?_); (· exact ⟨_, rfl⟩); conv => whnf)
      | ((with_reducible refine needm_of ?_ ?_); (· first | assumption | exact decide_eq_true (by omega) | decide +kernel | (refine decide_eq_true ?_; simp (disch := omega) only [i64w]; omega)); conv => whnf)
      | ((with_reducible refine condm_pos ?_ ?_); (· assumption); conv => whnf)
      | ((with_reducible refine condm_neg ?_ ?_); (· assumption); conv => whnf)
      | ((with_reducible refine forceL_fv (by assumption) ?_); conv => whnf)
      | ((with_reducible refine forceL_rfv (by assumption) ?_); conv => whnf)
      | ((with_reducible refine forceNm_of ?_); conv => whnf)
      | ((with_reducible refine needm_of (fv_lenL (by assumption) (by assumption)) ?_); conv => whnf)
      | ((with_reducible refine optm_var (fv_strL (by assumption) (by assumption)) (fun s hs => ?_)); conv => whnf)
      | ((with_reducible refine forceA_of ?_); conv => whnf)
      | (refine Fn.frame [0] (by rfl) (by exact ⟨rfl, trivial⟩) (by rfl) (frame29 _ _ _ _ _ _ _ _ _ _ _ _ _ _ _ ?_); conv => whnf)
      | ((with_reducible refine condm_of (fun h => ?_) (fun h => ?_)) <;> (conv => whnf))
      | ((with_reducible refine And.intro ?_ ?_) <;> (conv => whnf))
      | (refine ⟨_, _, [0], ?_, ?_, ?_, hk1 ?_⟩; (· rfl); (· exact ⟨rfl, trivial⟩); (· rfl); simp_all; done)
      | (refine ⟨_, _, [0], ?_, ?_, ?_, hk2 ?_ ?_⟩; (· rfl); (· exact ⟨rfl, trivial⟩); (· rfl); (· simp_all; done); simp_all; done)
      | (refine ⟨_, _, [0], ?_, ?_, ?_, hk3 ?_ ?_ ?_⟩; (· rfl); (· exact ⟨rfl, trivial⟩); (· rfl); (· simp_all; done); (· simp_all; done); simp_all; done)
      | (refine ⟨_, _, [0], ?_, ?_, ?_, hk4 ?_ ?_ ?_ _ _ rfl rfl⟩; (· rfl); (· exact ⟨rfl, trivial⟩); (· rfl); (· simp_all; done); (· simp_all; done); simp_all; done))
set_option maxHeartbeats 0 in
theorem tick18 {K : V → Hp → Prop}
    (hk1 : ov = true → K (.t [.g nofc, .a (.bool false), .a (.int .i64 5)]) [.cells (sa a b c d e t w r q bd at_ go se ov) 71 false])
    (hk2 : ov = false → at_ = 0 → K (.t [.g nofc, .a (.bool false), .a (.int .i64 0)]) [.cells (sa a b c d e t w r q bd at_ go se ov) 71 false])
    (hk3 : ov = false → at_ ≠ 0 → ∀ x, x = IntKind.i64.wrap (go + 1) → x < w → K (.t [.g nofc, .a (.bool false), .a (.int .i64 0)]) [.cells (sa a b c d e t w r q bd at_ x se ov) 71 false])
    (hk4 : ov = false → at_ ≠ 0 → ∀ x, x = IntKind.i64.wrap (go + 1) → w ≤ x → at_ = r → K (.t [.g nofc, .a (.bool false), .a (.int .i64 230)]) [.cells (sa a b c d e t w r q bd 0 x se true) 71 false])
    (hk5 : ov = false → at_ ≠ 0 → ∀ x, x = IntKind.i64.wrap (go + 1) → w ≤ x → at_ ≠ r → ∀ y z, y = IntKind.i64.wrap (at_ + 1) → z = IntKind.i64.wrap (se + 1) → K (.t [.g (fc d e a b c t q false bd), .a (.bool true), .a (.int .i64 0)]) [.cells (sa a b c d e t w r q bd y 0 z ov) 71 false]) :
    Go.Eng.Fn Try.prog ro 18 [.a (.ptr 0 0)] [.cells (sa a b c d e t w r q bd at_ go se ov) 71 false] K := by
  refine Go.Eng.Fn.weak ?_
  refine Go.Eng.Fn.of 1 h18 rfl Try.func18 rfl (Nat.le_of_ble_eq_true rfl) ?_
  conv => whnf
  repeat' (first
      | ((with_reducible refine regx_of ?_ ?_); (· decide +kernel); conv => whnf)
      | ((with_reducible refine growx_pre ?_ ?_); (· exact ⟨_, rfl⟩); conv => whnf)
      | ((with_reducible refine needm_of ?_ ?_); (· first | assumption | exact decide_eq_true (by omega) | decide +kernel | (refine decide_eq_true ?_; simp (disch := omega) only [i64w]; omega)); conv => whnf)
      | ((with_reducible refine condm_pos ?_ ?_); (· assumption); conv => whnf)
      | ((with_reducible refine condm_neg ?_ ?_); (· assumption); conv => whnf)
      | ((with_reducible refine forceL_fv (by assumption) ?_); conv => whnf)
      | ((with_reducible refine forceL_rfv (by assumption) ?_); conv => whnf)
      | ((with_reducible refine forceNm_of ?_); conv => whnf)
      | ((with_reducible refine needm_of (fv_lenL (by assumption) (by assumption)) ?_); conv => whnf)
      | ((with_reducible refine optm_var (fv_strL (by assumption) (by assumption)) (fun s hs => ?_)); conv => whnf)
      | ((with_reducible refine forceA_of ?_); conv => whnf)
      | (refine Fn.frame [0] (by rfl) (by exact ⟨rfl, trivial⟩) (by rfl) (send28 _ _ _ _ _ _ _ _ _ _ _ _ _ _ (fun x y hx hy => ?_)); conv => whnf)
      | ((with_reducible refine condm_of (fun h => ?_) (fun h => ?_)) <;> (conv => whnf))
      | ((with_reducible refine And.intro ?_ ?_) <;> (conv => whnf))
      | (refine ⟨_, _, [0], ?_, ?_, ?_, hk1 ?_⟩; (· rfl); (· exact ⟨rfl, trivial⟩); (· rfl); simp_all; done)
      | (refine ⟨_, _, [0], ?_, ?_, ?_, hk2 ?_ ?_⟩; (· rfl); (· exact ⟨rfl, trivial⟩); (· rfl); (· simp_all; done); simp_all; done)
      | (refine ⟨_, _, [0], ?_, ?_, ?_, hk3 ?_ ?_ _ rfl ?_⟩; (· rfl); (· exact ⟨rfl, trivial⟩); (· rfl); (· simp_all; done); (· simp_all; done); simp_all; done)
      | (refine ⟨_, _, [0], ?_, ?_, ?_, hk4 ?_ ?_ _ rfl ?_ ?_⟩; (· rfl); (· exact ⟨rfl, trivial⟩); (· rfl); (· simp_all; done); (· simp_all; done); (· simp_all; done); simp_all; done)
      | (refine ⟨_, _, [0], ?_, ?_, ?_, hk5 ?_ ?_ _ rfl ?_ ?_ _ _ ‹_› ‹_›⟩; (· rfl); (· exact ⟨rfl, trivial⟩); (· rfl); (· simp_all; done); (· simp_all; done); (· simp_all; done); simp_all; done))
set_option maxHeartbeats 0 in
theorem tick19 {K : V → Hp → Prop}
    (hk1 : ov = true → K (.t [.g nofc, .a (.bool false), .a (.int .i64 5)]) [.cells (sr a b c d e w r t q wt ov bd go at_ se) 58 false])
    (hk2 : ov = false → wt = false → K (.t [.g nofc, .a (.bool false), .a (.int .i64 0)]) [.cells (sr a b c d e w r t q wt ov bd go at_ se) 58 false])
    (hk3 : ov = false → wt = true → ∀ x, x = IntKind.i64.wrap (go + 1) → x < w → K (.t [.g nofc, .a (.bool false), .a (.int .i64 0)]) [.cells (sr a b c d e w r t q wt ov bd x at_ se) 58 false])
    (hk4 : ov = false → wt = true → ∀ x, x = IntKind.i64.wrap (go + 1) → w ≤ x → at_ = r → K (.t [.g nofc, .a (.bool false), .a (.int .i64 230)]) [.cells (sr a b c d e w r t q false true bd x at_ se) 58 false])
    (hk5 : ov = false → wt = true → ∀ x, x = IntKind.i64.wrap (go + 1) → w ≤ x → at_ ≠ r → ∀ y z, y = IntKind.i64.wrap (at_ + 1) → z = IntKind.i64.wrap (se + 1) → K (.t [.g (fc d e a b c t q false bd), .a (.bool true), .a (.int .i64 0)]) [.cells (sr a b c d e w r t q wt ov bd 0 y z) 58 false]) :
    Go.Eng.Fn Try.prog ro 19 [.a (.ptr 0 0)] [.cells (sr a b c d e w r t q wt ov bd go at_ se) 58 false] K := by
  refine Go.Eng.Fn.weak ?_
  refine Go.Eng.Fn.of 1 h19 rfl Try.func19 rfl (Nat.le_of_ble_eq_true rfl) ?_
  conv => whnf
  repeat' (first
      | ((with_reducible refine regx_of ?_ ?_); (· decide +kernel); conv => whnf)
      | ((with_reducible refine growx_pre ?_ ?_); (· exact ⟨_, rfl⟩); conv => whnf)
      | ((with_reducible refine needm_of ?_ ?_); (· first | assumption | exact decide_eq_true (by omega) | decide +kernel | (refine decide_eq_true ?_; simp (disch := omega) only [i64w]; omega)); conv => whnf)
      | ((with_reducible refine condm_pos ?_ ?_); (· assumption); conv => whnf)
      | ((with_reducible refine condm_neg ?_ ?_); (· assumption); conv => whnf)
      | ((with_reducible refine forceL_fv (by assumption) ?_); conv => whnf)
      | ((with_reducible refine forceL_rfv (by assumption) ?_); conv => whnf)
      | ((with_reducible refine forceNm_of ?_); conv => whnf)
      | ((with_reducible refine needm_of (fv_lenL (by assumption) (by assumption)) ?_); conv => whnf)
      | ((with_reducible refine optm_var (fv_strL (by assumption) (by assumption)) (fun s hs => ?_)); conv => whnf)
      | ((with_reducible refine forceA_of ?_); conv => whnf)
      | (refine Fn.frame [0] (by rfl) (by exact ⟨rfl, trivial⟩) (by rfl) (frame29 _ _ _ _ _ _ _ _ _ _ _ _ _ _ _ ?_); conv => whnf)
      | ((with_reducible refine condm_of (fun h => ?_) (fun h => ?_)) <;> (conv => whnf))
      | ((with_reducible refine And.intro ?_ ?_) <;> (conv => whnf))
      | (refine ⟨_, _, [0], ?_, ?_, ?_, hk1 ?_⟩; (· rfl); (· exact ⟨rfl, trivial⟩); (· rfl); simp_all; done)
      | (refine ⟨_, _, [0], ?_, ?_, ?_, hk2 ?_ ?_⟩; (· rfl); (· exact ⟨rfl, trivial⟩); (· rfl); (· simp_all; done); simp_all; done)
      | (refine ⟨_, _, [0], ?_, ?_, ?_, hk3 ?_ ?_ _ rfl ?_⟩; (· rfl); (· exact ⟨rfl, trivial⟩); (· rfl); (· simp_all; done); (· simp_all; done); simp_all; done)
      | (refine ⟨_, _, [0], ?_, ?_, ?_, hk4 ?_ ?_ _ rfl ?_ ?_⟩; (· rfl); (· exact ⟨rfl, trivial⟩); (· rfl); (· simp_all; done); (· simp_all; done); (· simp_all; done); simp_all; done)
      | (refine ⟨_, _, [0], ?_, ?_, ?_, hk5 ?_ ?_ _ rfl ?_ ?_ _ _ rfl rfl⟩; (· rfl); (· exact ⟨rfl, trivial⟩); (· rfl); (· simp_all; done); (· simp_all; done); (· simp_all; done); simp_all; done))
@[reducible] def tkA (a b c d e t q at_ g0 g1 g2 g3 g4 g5 g6 : Int) (g7 : Bool) : Prop := at_ ≠ 0 ∧ g7 = true ∧ oursq a b c d e g0 g1 g2 g3 g4 = true ∧ g6 = q ∧ (1 < q → g5 = t)
@[reducible] def tkR (a b c d e t q : Int) (wt : Bool) (g0 g1 g2 g3 g4 g5 g6 : Int) (g7 : Bool) : Prop := wt = true ∧ g7 = true ∧ oursq a b c d e g0 g1 g2 g3 g4 = true ∧ g6 = q ∧ (q ≠ 1 → g5 = t)
set_option maxHeartbeats 0 in
theorem take20 {K : V → Hp → Prop}
    (hk0 : ¬ tkA a b c d e t q at_ g0 g1 g2 g3 g4 g5 g6 g7 → K (.t [.a (.str ⟨#[]⟩), .a (.bool false)]) [.cells (sa a b c d e t w r q bd at_ go se ov) 71 false])
    (hk1 : tkA a b c d e t q at_ g0 g1 g2 g3 g4 g5 g6 g7 → K (.t [.a (.str g8), .a (.bool true)]) [.cells (sa a b c d e g5 w r q bd 0 go se ov) 71 false]) :
    Go.Eng.Fn Try.prog ro 20 [.a (.ptr 0 0), .g (fc g0 g1 g2 g3 g4 g5 g6 g7 g8)] [.cells (sa a b c d e t w r q bd at_ go se ov) 71 false] K := by
  refine Go.Eng.Fn.weak ?_
  refine Go.Eng.Fn.of 1 h20 rfl Try.func20 rfl (Nat.le_of_ble_eq_true rfl) ?_
  conv => whnf
  repeat' (first
      | ((with_reducible refine regx_of ?_ ?_); (· decide +kernel); conv => whnf)
      | ((with_reducible refine growx_pre ?_ ?_); (· exact ⟨_, rfl⟩); conv => whnf)
      | ((with_reducible refine needm_of ?_ ?_); (· first | assumption | exact decide_eq_true (by omega) | decide +kernel | (refine decide_eq_true ?_; simp (disch := omega) only [i64w]; omega)); conv => whnf)
      | ((with_reducible refine condm_pos ?_ ?_); (· assumption); conv => whnf)
      | ((with_reducible refine condm_neg ?_ ?_); (· assumption); conv => whnf)
      | ((with_reducible refine forceL_fv (by assumption) ?_); conv => whnf)
      | ((with_reducible refine forceL_rfv (by assumption) ?_); conv => whnf)
      | ((with_reducible refine forceNm_of ?_); conv => whnf)
      | ((with_reducible refine needm_of (fv_lenL (by assumption) (by assumption)) ?_); conv => whnf)
      | ((with_reducible refine optm_var (fv_strL (by assumption) (by assumption)) (fun s hs => ?_)); conv => whnf)
      | ((with_reducible refine forceA_of ?_); conv => whnf)
      | (refine Fn.frame [0] (by rfl) (by exact ⟨rfl, trivial⟩) (by rfl) (oursA a b c d e t w r q bd at_ go se ov g0 g1 g2 g3 g4 g5 g6 g7 g8 (fun x hx => ?_)); conv => whnf)
      | ((with_reducible refine condm_of (fun h => ?_) (fun h => ?_)) <;> (conv => whnf))
      | ((with_reducible refine And.intro ?_ ?_) <;> (conv => whnf))
      | (refine ⟨_, _, [0], ?_, ?_, ?_, hk0 ?_⟩; (· rfl); (· exact ⟨rfl, trivial⟩); (· rfl); clear hk0 hk1; unfold tkA; grind)
      | (refine ⟨_, _, [0], ?_, ?_, ?_, hk1 ?_⟩; (· rfl); (· exact ⟨rfl, trivial⟩); (· rfl); clear hk0 hk1; unfold tkA; grind))
set_option maxHeartbeats 0 in
theorem take21 {K : V → Hp → Prop}
    (hk0 : ¬ tkR a b c d e t q wt g0 g1 g2 g3 g4 g5 g6 g7 → K (.t [.a (.str ⟨#[]⟩), .a (.bool false)]) [.cells (sr a b c d e w r t q wt ov bd go at_ se) 58 false])
    (hk1 : tkR a b c d e t q wt g0 g1 g2 g3 g4 g5 g6 g7 → K (.t [.a (.str g8), .a (.bool true)]) [.cells (sr a b c d e w r g5 q false ov bd go at_ se) 58 false]) :
    Go.Eng.Fn Try.prog ro 21 [.a (.ptr 0 0), .g (fc g0 g1 g2 g3 g4 g5 g6 g7 g8)] [.cells (sr a b c d e w r t q wt ov bd go at_ se) 58 false] K := by
  refine Go.Eng.Fn.weak ?_
  refine Go.Eng.Fn.of 1 h21 rfl Try.func21 rfl (Nat.le_of_ble_eq_true rfl) ?_
  conv => whnf
  repeat' (first
      | ((with_reducible refine regx_of ?_ ?_); (· decide +kernel); conv => whnf)
      | ((with_reducible refine growx_pre ?_ ?_); (· exact ⟨_, rfl⟩); conv => whnf)
      | ((with_reducible refine needm_of ?_ ?_); (· first | assumption | exact decide_eq_true (by omega) | decide +kernel | (refine decide_eq_true ?_; simp (disch := omega) only [i64w]; omega)); conv => whnf)
      | ((with_reducible refine condm_pos ?_ ?_); (· assumption); conv => whnf)
      | ((with_reducible refine condm_neg ?_ ?_); (· assumption); conv => whnf)
      | ((with_reducible refine forceL_fv (by assumption) ?_); conv => whnf)
      | ((with_reducible refine forceL_rfv (by assumption) ?_); conv => whnf)
      | ((with_reducible refine forceNm_of ?_); conv => whnf)
      | ((with_reducible refine needm_of (fv_lenL (by assumption) (by assumption)) ?_); conv => whnf)
      | ((with_reducible refine optm_var (fv_strL (by assumption) (by assumption)) (fun s hs => ?_)); conv => whnf)
      | ((with_reducible refine forceA_of ?_); conv => whnf)
      | ((with_reducible refine condm_of (fun h => ?_) (fun h => ?_)) <;> (conv => whnf))
      | ((with_reducible refine And.intro ?_ ?_) <;> (conv => whnf))
      | (refine ⟨_, EqAgg.of rfl, ?_⟩; conv => whnf)
      | (refine ⟨_, _, [0], ?_, ?_, ?_, hk0 ?_⟩; (· rfl); (· exact ⟨rfl, trivial⟩); (· rfl); clear hk0 hk1; unfold tkR oursq; grind)
      | (refine ⟨_, _, [0], ?_, ?_, ?_, hk1 ?_⟩; (· rfl); (· exact ⟨rfl, trivial⟩); (· rfl); clear hk0 hk1; unfold tkR oursq; grind))
@[reducible] def okn (w r : Int) : Prop := 1 ≤ w ∧ w ≤ 1000 ∧ 1 ≤ r ∧ r ≤ 16
set_option maxHeartbeats 0 in
theorem new14 {K : V → Hp → Prop}
    (hk0 : ¬ okn w r → K (.t [.a .nilp, .a (.int .i64 1)]) [])
    (hk1 : okn w r → K (.t [.a (.ptr 0 0), .a (.int .i64 0)]) [.cells (sa a b c d e 0 w r 0 ⟨#[]⟩ 0 0 0 false) 71 false]) :
    Go.Eng.Fn Try.prog ro 14 [.g [.int .u8 a, .int .u16 b, .int .u32 c], .a (.int .u8 d), .a (.int .u8 e), .a (.int .i64 w), .a (.int .i64 r)] [] K := by
  refine Go.Eng.Fn.weak ?_
  refine Go.Eng.Fn.of 0 (gOf []) rfl Try.func14 rfl (Nat.le_of_ble_eq_true rfl) ?_
  conv => whnf
  repeat' (first
      | ((with_reducible refine regx_of ?_ ?_); (· decide +kernel); conv => whnf)
      | ((with_reducible refine growx_pre ?_ ?_); (· exact ⟨_, rfl⟩); conv => whnf)
      | ((with_reducible refine needm_of ?_ ?_); (· first | assumption | exact decide_eq_true (by omega) | decide +kernel | (refine decide_eq_true ?_; simp (disch := omega) only [i64w]; omega)); conv => whnf)
      | ((with_reducible refine condm_pos ?_ ?_); (· assumption); conv => whnf)
      | ((with_reducible refine condm_neg ?_ ?_); (· assumption); conv => whnf)
      | ((with_reducible refine forceL_fv (by assumption) ?_); conv => whnf)
      | ((with_reducible refine forceL_rfv (by assumption) ?_); conv => whnf)
      | ((with_reducible refine forceNm_of ?_); conv => whnf)
      | ((with_reducible refine needm_of (fv_lenL (by assumption) (by assumption)) ?_); conv => whnf)
      | ((with_reducible refine optm_var (fv_strL (by assumption) (by assumption)) (fun s hs => ?_)); conv => whnf)
      | ((with_reducible refine forceA_of ?_); conv => whnf)
      | ((with_reducible refine condm_of (fun h => ?_) (fun h => ?_)) <;> (conv => whnf))
      | ((with_reducible refine And.intro ?_ ?_) <;> (conv => whnf))
      | (refine ⟨_, _, [], ?_, ?_, ?_, hk0 ?_⟩; (· rfl); (· exact trivial); (· rfl); clear hk0 hk1; unfold okn; grind)
      | (refine ⟨_, _, [1], ?_, ?_, ?_, hk1 ?_⟩; (· rfl); (· exact ⟨rfl, trivial⟩); (· rfl); clear hk0 hk1; unfold okn; grind))
set_option maxHeartbeats 0 in
theorem new15 {K : V → Hp → Prop}
    (hk0 : ¬ okn w r → K (.a .nilp) [])
    (hk1 : okn w r → K (.a (.ptr 0 0)) [.cells (sr a b c d e w r 0 0 false false ⟨#[]⟩ 0 0 0) 58 false]) :
    Go.Eng.Fn Try.prog ro 15 [.g [.int .u8 a, .int .u16 b, .int .u32 c], .a (.int .u8 d), .a (.int .u8 e), .a (.int .i64 w), .a (.int .i64 r)] [] K := by
  refine Go.Eng.Fn.weak ?_
  refine Go.Eng.Fn.of 0 (gOf []) rfl Try.func15 rfl (Nat.le_of_ble_eq_true rfl) ?_
  conv => whnf
  repeat' (first
      | ((with_reducible refine regx_of ?_ ?_); (· decide +kernel); conv => whnf)
      | ((with_reducible refine growx_pre ?_ ?_); (· exact ⟨_, rfl⟩); conv => whnf)
      | ((with_reducible refine needm_of ?_ ?_); (· first | assumption | exact decide_eq_true (by omega) | decide +kernel | (refine decide_eq_true ?_; simp (disch := omega) only [i64w]; omega)); conv => whnf)
      | ((with_reducible refine condm_pos ?_ ?_); (· assumption); conv => whnf)
      | ((with_reducible refine condm_neg ?_ ?_); (· assumption); conv => whnf)
      | ((with_reducible refine forceL_fv (by assumption) ?_); conv => whnf)
      | ((with_reducible refine forceL_rfv (by assumption) ?_); conv => whnf)
      | ((with_reducible refine forceNm_of ?_); conv => whnf)
      | ((with_reducible refine needm_of (fv_lenL (by assumption) (by assumption)) ?_); conv => whnf)
      | ((with_reducible refine optm_var (fv_strL (by assumption) (by assumption)) (fun s hs => ?_)); conv => whnf)
      | ((with_reducible refine forceA_of ?_); conv => whnf)
      | ((with_reducible refine condm_of (fun h => ?_) (fun h => ?_)) <;> (conv => whnf))
      | ((with_reducible refine And.intro ?_ ?_) <;> (conv => whnf))
      | (refine ⟨_, _, [], ?_, ?_, ?_, hk0 ?_⟩; (· rfl); (· exact trivial); (· rfl); clear hk0 hk1; unfold okn; grind)
      | (refine ⟨_, _, [1], ?_, ?_, ?_, hk1 ?_⟩; (· rfl); (· exact ⟨rfl, trivial⟩); (· rfl); clear hk0 hk1; unfold okn; grind))
set_option maxHeartbeats 0 in
theorem waits22 {K : V → Hp → Prop} (hk : ∀ x, x = decide (0 < at_) → K (.a (.bool x)) [.cells (sa a b c d e t w r q bd at_ go se ov) 71 false]) :
    Go.Eng.Fn Try.prog ro 22 [.a (.ptr 0 0)] [.cells (sa a b c d e t w r q bd at_ go se ov) 71 false] K := by
  refine Go.Eng.Fn.weak ?_
  refine Go.Eng.Fn.of 1 (gOf []) rfl Try.func22 rfl (Nat.le_of_ble_eq_true rfl) ?_
  conv => whnf
  repeat' (first
      | ((with_reducible refine regx_of ?_ ?_); (· decide +kernel); conv => whnf)
      | ((with_reducible refine growx_pre ?_ ?_); (· exact ⟨_, rfl⟩); conv => whnf)
      | ((with_reducible refine needm_of ?_ ?_); (· first | assumption | exact decide_eq_true (by omega) | decide +kernel | (refine decide_eq_true ?_; simp (disch := omega) only [i64w]; omega)); conv => whnf)
      | ((with_reducible refine condm_pos ?_ ?_); (· assumption); conv => whnf)
      | ((with_reducible refine condm_neg ?_ ?_); (· assumption); conv => whnf)
      | ((with_reducible refine forceL_fv (by assumption) ?_); conv => whnf)
      | ((with_reducible refine forceL_rfv (by assumption) ?_); conv => whnf)
      | ((with_reducible refine forceNm_of ?_); conv => whnf)
      | ((with_reducible refine needm_of (fv_lenL (by assumption) (by assumption)) ?_); conv => whnf)
      | ((with_reducible refine optm_var (fv_strL (by assumption) (by assumption)) (fun s hs => ?_)); conv => whnf)
      | ((with_reducible refine forceA_of ?_); conv => whnf)
      | (refine ⟨_, _, [0], ?_, ?_, ?_, hk ?_ ?_⟩; (· rfl); (· exact ⟨rfl, trivial⟩); (· rfl); rfl))
set_option maxHeartbeats 0 in
theorem ticket23 {K : V → Hp → Prop} (hk : K (.a (.int .u64 t)) [.cells (sa a b c d e t w r q bd at_ go se ov) 71 false]) :
    Go.Eng.Fn Try.prog ro 23 [.a (.ptr 0 0)] [.cells (sa a b c d e t w r q bd at_ go se ov) 71 false] K := by
  refine Go.Eng.Fn.weak ?_
  refine Go.Eng.Fn.of 1 (gOf []) rfl Try.func23 rfl (Nat.le_of_ble_eq_true rfl) ?_
  conv => whnf
  repeat' (first
      | ((with_reducible refine regx_of ?_ ?_); (· decide +kernel); conv => whnf)
      | ((with_reducible refine growx_pre ?_ ?_); (· exact ⟨_, rfl⟩); conv => whnf)
      | ((with_reducible refine needm_of ?_ ?_); (· first | assumption | exact decide_eq_true (by omega) | decide +kernel | (refine decide_eq_true ?_; simp (disch := omega) only [i64w]; omega)); conv => whnf)
      | ((with_reducible refine condm_pos ?_ ?_); (· assumption); conv => whnf)
      | ((with_reducible refine condm_neg ?_ ?_); (· assumption); conv => whnf)
      | ((with_reducible refine forceL_fv (by assumption) ?_); conv => whnf)
      | ((with_reducible refine forceL_rfv (by assumption) ?_); conv => whnf)
      | ((with_reducible refine forceNm_of ?_); conv => whnf)
      | ((with_reducible refine needm_of (fv_lenL (by assumption) (by assumption)) ?_); conv => whnf)
      | ((with_reducible refine optm_var (fv_strL (by assumption) (by assumption)) (fun s hs => ?_)); conv => whnf)
      | ((with_reducible refine forceA_of ?_); conv => whnf)
      | (refine ⟨_, _, [0], ?_, ?_, ?_, hk⟩; (· rfl); (· exact ⟨rfl, trivial⟩); (· rfl)))
set_option maxHeartbeats 0 in
theorem sent24 {K : V → Hp → Prop} (hk : K (.a (.int .i64 se)) [.cells (sa a b c d e t w r q bd at_ go se ov) 71 false]) :
    Go.Eng.Fn Try.prog ro 24 [.a (.ptr 0 0)] [.cells (sa a b c d e t w r q bd at_ go se ov) 71 false] K := by
  refine Go.Eng.Fn.weak ?_
  refine Go.Eng.Fn.of 1 (gOf []) rfl Try.func24 rfl (Nat.le_of_ble_eq_true rfl) ?_
  conv => whnf
  repeat' (first
      | ((with_reducible refine regx_of ?_ ?_); (· decide +kernel); conv => whnf)
      | ((with_reducible refine growx_pre ?_ ?_); (· exact ⟨_, rfl⟩); conv => whnf)
      | ((with_reducible refine needm_of ?_ ?_); (· first | assumption | exact decide_eq_true (by omega) | decide +kernel | (refine decide_eq_true ?_; simp (disch := omega) only [i64w]; omega)); conv => whnf)
      | ((with_reducible refine condm_pos ?_ ?_); (· assumption); conv => whnf)
      | ((with_reducible refine condm_neg ?_ ?_); (· assumption); conv => whnf)
      | ((with_reducible refine forceL_fv (by assumption) ?_); conv => whnf)
      | ((with_reducible refine forceL_rfv (by assumption) ?_); conv => whnf)
      | ((with_reducible refine forceNm_of ?_); conv => whnf)
      | ((with_reducible refine needm_of (fv_lenL (by assumption) (by assumption)) ?_); conv => whnf)
      | ((with_reducible refine optm_var (fv_strL (by assumption) (by assumption)) (fun s hs => ?_)); conv => whnf)
      | ((with_reducible refine forceA_of ?_); conv => whnf)
      | (refine ⟨_, _, [0], ?_, ?_, ?_, hk⟩; (· rfl); (· exact ⟨rfl, trivial⟩); (· rfl)))
end
end Go.Proofs.Ytefimkcfaoabpaa.TA
