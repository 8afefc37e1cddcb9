import Derived.Test.YtefimkcfaoabpaaTD
import Derived.Test.YtefimkcfaoabpaaTA
namespace Go.Proofs.Ytefimkcfaoabpaa.TA
open Go.Eng
set_option maxRecDepth 100000
@[reducible] def F1 (l : A) (i : Int) : Frm := [(3, .a l), (4, .a (.ptr 0 0)), (9, .a (.ptr 1 0)), (11, .a (.ptr 2 0)), (12, .a (.int .i64 i))]
@[reducible] def H1 (a b c d e t w r q : Int) (bd : ByteArray) (at_ go se : Int) (ov wt : Bool) (bd' : ByteArray) (go' at' : Int) : Hp :=
  [.cells (xc a b c d e) 27 false, .cells (sa a b c d e t w r q bd at_ go se ov) 71 false, .cells (sr a b c d e w r t q wt ov bd' go' at' se) 58 false]
@[reducible] def RelA (r q : Int) (bd : ByteArray) (at_ go : Int) (wt : Bool) (bd' : ByteArray) (go' at' : Int) : Prop :=
  0 ≤ q ∧ q ≤ 4294967295 ∧ (wt = true → 1 ≤ at_ ∧ at_ ≤ r ∧ 1 ≤ q ∧ bd' = bd ∧ go' = go ∧ at' = at_) ∧ (wt = false → at_ = 0)
def Inv1 (a b c d e w r : Int) (l : A) (len : Nat) (m : Nat) (F : Frm) (H : Hp) : Prop :=
  ∃ (i : Nat) (t q : Int) (bd : ByteArray) (at_ go se : Int) (ov wt : Bool) (bd' : ByteArray) (go' at' : Int), F = F1 l i ∧ H = H1 a b c d e t w r q bd at_ go se ov wt bd' go' at' ∧ i ≤ len ∧ m = len - i ∧ RelA r q bd at_ go wt bd' go' at'
set_option maxHeartbeats 0 in
theorem askers (W : World) (a b c d e w r : Int) (p : Addr) (len cap : Nat) (G : Nat → List A) (hG : IsSl W 12 KS (.rslc p len cap) len cap G) (hlen : len ≤ maxLen) :
    Go.Eng.Fn Try.prog (roOf W) 4 [.g [.int .u8 a, .int .u16 b, .int .u32 c, .int .u8 d, .int .u8 e], .a (.int .i64 w), .a (.int .i64 r), .a (.rslc p len cap)] [] (fun v _ => v = .a (.bool true)) := by
  refine Go.Eng.Fn.of 0 h4 rfl Try.func4 rfl (Nat.le_of_ble_eq_true rfl) ?_
  conv => whnf
  refine Fn.frame [] (by rfl) (by exact trivial) (by rfl) (new14 a b c d e w r (fun hw => ?_) (fun hw => ?_))
  · conv => whnf
    refine Fn.frame [] (by rfl) (by exact trivial) (by rfl) (new15 a b c d e w r (fun hw' => ?_) (fun hw' => absurd hw' hw))
    conv => whnf
    rfl
  · conv => whnf
    refine Fn.frame [] (by rfl) (by exact trivial) (by rfl) (new15 a b c d e w r (fun hw' => absurd hw hw') (fun hw' => ?_))
    conv => whnf
    refine loopx_of (Inv1 a b c d e w r (.rslc p len cap) len) len ?_ ?_
    · refine Into.weak [0, 1, 2] (F1 (.rslc p len cap) 0) (H1 a b c d e 0 w r 0 ⟨#[]⟩ 0 0 0 false false ⟨#[]⟩ 0 0) ⟨0, _, _, _, _, _, _, _, _, _, _, _, rfl, rfl, Nat.zero_le _, rfl, by decide, by decide, (fun h => nomatch h), fun _ => rfl⟩ ⟨rfl, rfl, rfl, rfl, rfl, trivial⟩ ⟨rfl, rfl, rfl, trivial⟩ rfl
    · clear hw'
      rintro m F H ⟨i, t, q, bd, at_, go, se, ov, wt, bd', go', at', rfl, rfl, hi, rfl, hq0, hq1, hr1, hr0⟩
      conv => whnf
      refine condm_of (fun h => ?_) (fun h => ?_)
      · have hil : i < len := by have := of_decide_eq_true h; omega
        obtain ⟨hf, hro⟩ := hG.get hil
        unfold KS at hf
        obtain ⟨kd, r0, e0, b0, g0⟩ := Fits.int hf
        obtain ⟨bo, r1, rfl, b1, g1⟩ := Fits.str g0
        obtain ⟨ow, r2, rfl, g2⟩ := Fits.bool g1
        obtain ⟨f0, r3, rfl, b3, g3⟩ := Fits.int g2
        obtain ⟨f1, r4, rfl, b4, g4⟩ := Fits.int g3
        obtain ⟨f2, r5, rfl, b5, g5⟩ := Fits.int g4
        obtain ⟨f3, r6, rfl, b6, g6⟩ := Fits.int g5
        obtain ⟨f4, r7, rfl, b7, g7⟩ := Fits.int g6
        obtain ⟨f5, r8, rfl, b8, g8⟩ := Fits.int g7
        obtain ⟨f6, r9, rfl, b9, g9⟩ := Fits.int g8
        obtain ⟨f7, r10, rfl, g10⟩ := Fits.bool g9
        obtain ⟨f8, r11, rfl, b11, g11⟩ := Fits.str g10
        obtain rfl := Fits.nil g11
        rw [e0] at hro
        have ld : ∀ j y, [A.int .i64 kd, .str bo, .bool ow, .int .u8 f0, .int .u8 f1, .int .u8 f2, .int .u16 f3, .int .u32 f4, .int .u64 f5, .int .u32 f6, .bool f7, .str f8][j]? = some y → roOf W ((p.add (i * 12)).add j) y := fun j y h => by rw [addr_add_add]; exact hro j y h
        have hwi := wrapi hil hlen
        clear hro e0 g11 b0 b1 b3 b4 b5 b6 b7 b8 b9 g0 g1 g2 g3 g4 g5 g6 g7 g8 g9 g10 h hf hG
        conv => whnf
        cases wt
        · obtain rfl := hr0 rfl
          clear hr1 hr0
          have h01 : IntKind.i64.wrap (0 + 1) = 1 := by decide
          have h02 : IntKind.i64.wrap 1 = 1 := by decide
          repeat' (first
            | ((with_reducible refine regx_of ?_ ?_); (· decide +kernel); conv => whnf)
            | ((with_reducible refine growx_pre ?_ ?_); (· exact ⟨_, rfl⟩); conv => whnf)
            | ((with_reducible refine needm_of ?_ ?_); (· first | assumption | exact decide_eq_true (by omega) | decide +kernel | (refine decide_eq_true ?_; simp (disch := omega) only [i64w]; omega)); conv => whnf)
            | ((with_reducible refine condm_pos ?_ ?_); (· assumption); conv => whnf)
            | ((with_reducible refine condm_neg ?_ ?_); (· assumption); conv => whnf)
            | ((with_reducible refine forceL_fv (by assumption) ?_); conv => whnf)
            | ((with_reducible refine forceL_rfv (by assumption) ?_); conv => whnf)
            | ((with_reducible refine forceNm_of ?_); conv => whnf)
            | ((with_reducible refine needm_of (fv_lenL (by assumption) (by assumption)) ?_); conv => whnf)
            | ((with_reducible refine optm_var (fv_strL (by assumption) (by assumption)) (fun s hs => ?_)); conv => whnf)
            | ((with_reducible refine forceA_of ?_); conv => whnf)
            | (refine ⟨_, ld 0 _ rfl, ?_⟩; conv => whnf)
            | (refine ⟨_, ld 1 _ rfl, ?_⟩; conv => whnf)
            | (refine ⟨[A.int .i64 kd, .str bo, .bool ow, .int .u8 f0, .int .u8 f1, .int .u8 f2, .int .u16 f3, .int .u32 f4, .int .u64 f5, .int .u32 f6, .bool f7, .str f8], rfl, ld, ?_⟩; conv => whnf)
            | (refine Fn.frame [1] (by rfl) (by exact ⟨rfl, trivial⟩) (by rfl) (ask16 _ _ _ _ _ _ _ _ _ _ _ _ _ _ _ (fun h1 => ?_) (fun h1 h2 => absurd h2 (by decide)) (fun h1 h2 h3 => ?_) (fun h1 h2 h3 z x y hz hx hy => ?_)) <;> (conv => whnf))
            | (refine Fn.frame [2] (by rfl) (by exact ⟨rfl, trivial⟩) (by rfl) (ask17 _ _ _ _ _ _ _ _ _ _ _ _ _ _ _ _ (fun g1 => ?_) (fun g1 g2 => absurd g2 (by decide)) (fun g1 g2 g3 => ?_) (fun g1 g2 g3 z' y' hz' hy' => ?_)) <;> first | (exfalso; simp_all; done) | (subst z' y' z x y; conv => whnf) | (conv => whnf))
            | (refine Fn.frame [1] (by rfl) (by exact ⟨rfl, trivial⟩) (by rfl) (tick18 _ _ _ _ _ _ _ _ _ _ _ _ _ _ (fun h1 => ?_) (fun h1 h2 => ?_) (fun h1 h2 => absurd rfl h2) (fun h1 h2 => absurd rfl h2) (fun h1 h2 => absurd rfl h2)) <;> (conv => whnf))
            | (refine Fn.frame [2] (by rfl) (by exact ⟨rfl, trivial⟩) (by rfl) (tick19 _ _ _ _ _ _ _ _ _ _ _ _ _ _ _ (fun g1 => ?_) (fun g1 g2 => ?_) (fun g1 g2 => absurd g2 (by decide)) (fun g1 g2 => absurd g2 (by decide)) (fun g1 g2 => absurd g2 (by decide))) <;> first | (exfalso; simp_all; done) | (conv => whnf))
            | (refine Fn.frame [] (by rfl) (by exact trivial) (by rfl) (fitted a b c d e true kd bo ow f0 f1 f2 f3 f4 f5 f6 f7 f8 ?_); conv => whnf)
            | (refine Fn.frame [1] (by rfl) (by exact ⟨rfl, trivial⟩) (by rfl) (take20 _ _ _ _ _ _ _ _ _ _ _ _ _ _ _ _ _ _ _ _ _ _ _ (fun h1 => ?_) (fun h1 => absurd rfl h1.1)); conv => whnf)
            | (refine Fn.frame [2] (by rfl) (by exact ⟨rfl, trivial⟩) (by rfl) (take21 _ _ _ _ _ _ _ _ _ _ _ _ _ _ _ _ _ _ _ _ _ _ _ _ (fun g1 => ?_) (fun g1 => absurd g1.1 (by decide))); conv => whnf)
            | (refine Fn.frame [1] (by rfl) (by exact ⟨rfl, trivial⟩) (by rfl) (waits22 _ _ _ _ _ _ _ _ _ _ _ _ _ _ (fun s hs => ?_)); conv => whnf)
            | (refine Fn.frame [1] (by rfl) (by exact ⟨rfl, trivial⟩) (by rfl) (ticket23 _ _ _ _ _ _ _ _ _ _ _ _ _ _ ?_); conv => whnf)
            | (refine Fn.frame [1] (by rfl) (by exact ⟨rfl, trivial⟩) (by rfl) (sent24 _ _ _ _ _ _ _ _ _ _ _ _ _ _ ?_); conv => whnf)
            | ((with_reducible refine condm_pos ?_ ?_); (· simp [*]; done); conv => whnf)
            | ((with_reducible refine condm_neg ?_ ?_); (· simp [*]; done); conv => whnf)
            | ((with_reducible refine condm_of (fun h => ?_) (fun h => ?_)) <;> (conv => whnf))
            | ((with_reducible refine And.intro ?_ ?_) <;> (conv => whnf))
            | (refine ⟨_, EqAgg.of rfl, ?_⟩; conv => whnf)
            | (refine ⟨len - (i + 1), by omega, Into.weak [0, 1, 2] (F1 (.rslc p len cap) _) (H1 a b c d e _ w r _ _ _ _ _ _ _ _ _ _) ?_ ⟨rfl, rfl, rfl, rfl, rfl, trivial⟩ ⟨rfl, rfl, rfl, trivial⟩ rfl⟩))
          all_goals refine ⟨i + 1, _, _, _, _, _, _, _, _, _, _, _, congrArg (F1 _) hwi, rfl, by omega, rfl, ?_⟩
          all_goals first
            | exact ⟨hq0, hq1, by simp, by simp⟩
            | (rw [wrap32 (q + 1) (by omega) (by omega), h01]; exact ⟨by omega, by omega, fun _ => ⟨by omega, hw.2.2.1, by omega, rfl, rfl, rfl⟩, fun h => by cases h⟩)
        · obtain ⟨hr1', hr2, hr3, rfl, rfl, rfl⟩ := hr1 rfl
          clear hr0 hr1
          have hne : at' ≠ 0 := by omega
          have hpos : 0 < at' := by omega
          have hat : IntKind.i64.wrap (at' + 1) = at' + 1 := i64w (by omega) (by omega)
          have hpos2 : 0 < at' + 1 := by omega
          repeat' (first
            | ((with_reducible refine regx_of ?_ ?_); (· decide +kernel); conv => whnf)
            | ((with_reducible refine growx_pre ?_ ?_); (· exact ⟨_, rfl⟩); conv => whnf)
            | ((with_reducible refine needm_of ?_ ?_); (· first | assumption | exact decide_eq_true (by omega) | decide +kernel | (refine decide_eq_true ?_; simp (disch := omega) only [i64w]; omega)); conv => whnf)
            | ((with_reducible refine condm_pos ?_ ?_); (· assumption); conv => whnf)
            | ((with_reducible refine condm_neg ?_ ?_); (· assumption); conv => whnf)
            | ((with_reducible refine forceL_fv (by assumption) ?_); conv => whnf)
            | ((with_reducible refine forceL_rfv (by assumption) ?_); conv => whnf)
            | ((with_reducible refine forceNm_of ?_); conv => whnf)
            | ((with_reducible refine needm_of (fv_lenL (by assumption) (by assumption)) ?_); conv => whnf)
            | ((with_reducible refine optm_var (fv_strL (by assumption) (by assumption)) (fun s hs => ?_)); conv => whnf)
            | ((with_reducible refine forceA_of ?_); conv => whnf)
            | (refine ⟨_, ld 0 _ rfl, ?_⟩; conv => whnf)
            | (refine ⟨_, ld 1 _ rfl, ?_⟩; conv => whnf)
            | (refine ⟨[A.int .i64 kd, .str bo, .bool ow, .int .u8 f0, .int .u8 f1, .int .u8 f2, .int .u16 f3, .int .u32 f4, .int .u64 f5, .int .u32 f6, .bool f7, .str f8], rfl, ld, ?_⟩; conv => whnf)
            | (refine Fn.frame [1] (by rfl) (by exact ⟨rfl, trivial⟩) (by rfl) (ask16 _ _ _ _ _ _ _ _ _ _ _ _ _ _ _ (fun h1 => ?_) (fun h1 h2 => ?_) (fun h1 h2 => absurd h2 (by omega)) (fun h1 h2 => absurd h2 (by omega))) <;> (conv => whnf))
            | (refine Fn.frame [2] (by rfl) (by exact ⟨rfl, trivial⟩) (by rfl) (ask17 _ _ _ _ _ _ _ _ _ _ _ _ _ _ _ _ (fun g1 => ?_) (fun g1 g2 => ?_) (fun g1 g2 => absurd g2 (by decide)) (fun g1 g2 => absurd g2 (by decide))) <;> first | (exfalso; simp_all; done) | (conv => whnf))
            | (refine Fn.frame [1] (by rfl) (by exact ⟨rfl, trivial⟩) (by rfl) (tick18 _ _ _ _ _ _ _ _ _ _ _ _ _ _ (fun h1 => ?_) (fun h1 h2 => absurd h2 hne) (fun h1 h2 x h3 h4 => ?_) (fun h1 h2 x h3 h4 h5 => ?_) (fun h1 h2 x h3 h4 h5 y z hy hz => ?_)) <;> (conv => whnf))
            | (refine Fn.frame [2] (by rfl) (by exact ⟨rfl, trivial⟩) (by rfl) (tick19 _ _ _ _ _ _ _ _ _ _ _ _ _ _ _ (fun g1 => ?_) (fun g1 g2 => absurd g2 (by decide)) (fun g1 g2 x' g3 g4 => ?_) (fun g1 g2 x' g3 g4 g5 => ?_) (fun g1 g2 x' g3 g4 g5 y' z' hy' hz' => ?_)) <;> first | (exfalso; simp_all; done) | (exfalso; subst x'; subst x; omega) | (subst x' y' z' x y z; conv => whnf) | (subst x' x; conv => whnf) | (conv => whnf))
            | (refine Fn.frame [] (by rfl) (by exact trivial) (by rfl) (fitted a b c d e true kd bo ow f0 f1 f2 f3 f4 f5 f6 f7 f8 ?_); conv => whnf)
            | (refine Fn.frame [1] (by rfl) (by exact ⟨rfl, trivial⟩) (by rfl) (take20 _ _ _ _ _ _ _ _ _ _ _ _ _ _ _ _ _ _ _ _ _ _ _ (fun h1 => ?_) (fun h1 => ?_)) <;> (conv => whnf))
            | (refine Fn.frame [2] (by rfl) (by exact ⟨rfl, trivial⟩) (by rfl) (take21 _ _ _ _ _ _ _ _ _ _ _ _ _ _ _ _ _ _ _ _ _ _ _ _ (fun g1 => ?_) (fun g1 => ?_)) <;> first | (exfalso; exact h1 ⟨hne, g1.2.1, g1.2.2.1, g1.2.2.2.1, fun hq => g1.2.2.2.2 (by omega)⟩) | (exfalso; exact g1 ⟨rfl, h1.2.1, h1.2.2.1, h1.2.2.2.1, fun hq => h1.2.2.2.2 (by omega)⟩) | (conv => whnf))
            | (refine Fn.frame [1] (by rfl) (by exact ⟨rfl, trivial⟩) (by rfl) (waits22 _ _ _ _ _ _ _ _ _ _ _ _ _ _ (fun s hs => ?_)); conv => whnf)
            | (refine Fn.frame [1] (by rfl) (by exact ⟨rfl, trivial⟩) (by rfl) (ticket23 _ _ _ _ _ _ _ _ _ _ _ _ _ _ ?_); conv => whnf)
            | (refine Fn.frame [1] (by rfl) (by exact ⟨rfl, trivial⟩) (by rfl) (sent24 _ _ _ _ _ _ _ _ _ _ _ _ _ _ ?_); conv => whnf)
            | ((with_reducible refine condm_pos ?_ ?_); (· simp [*]; done); conv => whnf)
            | ((with_reducible refine condm_neg ?_ ?_); (· simp [*]; done); conv => whnf)
            | ((with_reducible refine condm_of (fun h => ?_) (fun h => ?_)) <;> (conv => whnf))
            | ((with_reducible refine And.intro ?_ ?_) <;> (conv => whnf))
            | (refine ⟨_, EqAgg.of rfl, ?_⟩; conv => whnf)
            | (refine ⟨len - (i + 1), by omega, Into.weak [0, 1, 2] (F1 (.rslc p len cap) _) (H1 a b c d e _ w r _ _ _ _ _ _ _ _ _ _) ?_ ⟨rfl, rfl, rfl, rfl, rfl, trivial⟩ ⟨rfl, rfl, rfl, trivial⟩ rfl⟩))
          all_goals refine ⟨i + 1, _, _, _, _, _, _, _, _, _, _, _, congrArg (F1 _) hwi, rfl, by omega, rfl, ?_⟩
          all_goals first
            | exact ⟨hq0, hq1, fun _ => ⟨hr1', hr2, hr3, rfl, rfl, rfl⟩, (fun h => nomatch h)⟩
            | exact ⟨hq0, hq1, (fun h => nomatch h), fun _ => rfl⟩
            | (rw [hat]; exact ⟨hq0, hq1, fun _ => ⟨by omega, by omega, hr3, rfl, rfl, rfl⟩, (fun h => nomatch h)⟩)
      · conv => whnf
set_option maxHeartbeats 0 in
theorem askers_nil (ro : Addr → A → Prop) (a b c d e w r : Int) :
    Go.Eng.Fn Try.prog ro 4 [.g [.int .u8 a, .int .u16 b, .int .u32 c, .int .u8 d, .int .u8 e], .a (.int .i64 w), .a (.int .i64 r), .a .nils] [] (fun v _ => v = .a (.bool true)) := by
  refine Go.Eng.Fn.of 0 h4 rfl Try.func4 rfl (Nat.le_of_ble_eq_true rfl) ?_
  conv => whnf
  refine Fn.frame [] (by rfl) (by exact trivial) (by rfl) (new14 a b c d e w r (fun hw => ?_) (fun hw => ?_))
  · conv => whnf
    refine Fn.frame [] (by rfl) (by exact trivial) (by rfl) (new15 a b c d e w r (fun hw' => ?_) (fun hw' => absurd hw' hw))
    conv => whnf
    rfl
  · conv => whnf
    refine Fn.frame [] (by rfl) (by exact trivial) (by rfl) (new15 a b c d e w r (fun hw' => absurd hw hw') (fun hw' => ?_))
    conv => whnf
    refine loopx_iter 1 ?_
    conv => whnf
theorem top4 (W : World) (x : List A) (hx : Fits KE x) (w : Int) (_hw : IntKind.i64.min ≤ w ∧ w ≤ IntKind.i64.max) (r : Int) (_hr : IntKind.i64.min ≤ r ∧ r ≤ IntKind.i64.max) (y : A) (len cap : Nat) (G : Nat → List A) (hG : IsSl W 12 KS y len cap G) :
    Go.Eng.Fn Try.prog (roOf W) 4 [.g x, .a (.int .i64 w), .a (.int .i64 r), .a y] [] (fun v _ => v = .a (.bool true)) := by
  unfold KE at hx
  obtain ⟨a, r0, rfl, _, g0⟩ := Fits.int hx
  obtain ⟨b, r1, rfl, _, g1⟩ := Fits.int g0
  obtain ⟨c, r2, rfl, _, g2⟩ := Fits.int g1
  obtain ⟨d, r3, rfl, _, g3⟩ := Fits.int g2
  obtain ⟨e, r4, rfl, _, g4⟩ := Fits.int g3
  obtain rfl := Fits.nil g4
  rcases id hG with ⟨rfl, _⟩ | ⟨p, rfl, h1, h2, _⟩
  · exact askers_nil _ a b c d e w r
  · exact askers W a b c d e w r p len cap G hG (Nat.le_trans h1 h2)
end Go.Proofs.Ytefimkcfaoabpaa.TA
