import Derived.Test.YtefimkcfaoabpaaTC
namespace Go.Proofs.Ytefimkcfaoabpaa.TA
open Go.Eng
set_option maxRecDepth 100000
def KS : List Sc := [.int .i64, .str, .bool, .int .u8, .int .u8, .int .u8, .int .u16, .int .u32, .int .u64, .int .u32, .bool, .str]
@[reducible] def F0 (l : A) (i : Int) : Frm := [(2, .a l), (3, .a (.ptr 0 0)), (7, .a (.ptr 1 0)), (8, .a (.ptr 2 0)), (9, .a (.int .i64 i))]
@[reducible] def H0 (a b c d e t n : Int) (o : Bool) (k0 k1 k2 k3 k4 k5 k6 : Int) (k7 : Bool) (k8 : ByteArray) : Hp :=
  [.cells (xc a b c d e) 27 false, .cells (st a b c d e t n o k0 k1 k2 k3 k4 k5 k6 k7 k8) 67 false, .cells (st a b c d e t n o k0 k1 k2 k3 k4 k5 k6 k7 k8) 36 false]
def Inv (a b c d e t : Int) (l : A) (len : Nat) (m : Nat) (F : Frm) (H : Hp) : Prop :=
  ∃ (i : Nat) (n : Int) (o : Bool) (k0 k1 k2 k3 k4 k5 k6 : Int) (k7 : Bool) (k8 : ByteArray), F = F0 l i ∧ H = H0 a b c d e t n o k0 k1 k2 k3 k4 k5 k6 k7 k8 ∧ i ≤ len ∧ m = len - i ∧ 0 ≤ n ∧ n < 4294967296
theorem wrapi {i len : Nat} (h : i < len) (hl : len ≤ maxLen) : IntKind.i64.wrap (↑i + 1) = ((i + 1 : Nat) : Int) := by
  have : maxLen ≤ 9223372036854775807 := by decide
  simp only [IntKind.wrap, IntKind.signed, IntKind.bits]
  simp
  omega
set_option maxHeartbeats 0 in
theorem walk (W : World) (a b c d e t : Int) (p : Addr) (len cap : Nat) (G : Nat → List A) (hG : IsSl W 12 KS (.rslc p len cap) len cap G) (hlen : len ≤ maxLen) :
    Go.Eng.Fn Try.prog (roOf W) 3 [.g [.int .u8 a, .int .u16 b, .int .u32 c, .int .u8 d, .int .u8 e], .a (.int .u64 t), .a (.rslc p len cap)] [] (fun v _ => v = .a (.bool true)) := by
  refine Go.Eng.Fn.of_code h3 Try.func3 rfl (Nat.le_of_ble_eq_true rfl) ?_
  conv => whnf
  repeat' (first
      | ((with_reducible refine regx_of ?_ ?_); (· decide +kernel); conv => whnf)
      | ((with_reducible refine growx_pre ?_ ?_); (· exact ⟨_, rfl⟩); conv => whnf)
      | ((with_reducible refine needm_of ?_ ?_); (· first | assumption | exact decide_eq_true (by omega) | decide +kernel | (refine decide_eq_true ?_; simp (disch := omega) only [i64w]; omega)); conv => whnf)
      | ((with_reducible refine condm_pos ?_ ?_); (· assumption); conv => whnf)
      | ((with_reducible refine condm_neg ?_ ?_); (· assumption); conv => whnf)
      | ((with_reducible refine forceL_fv (by assumption) ?_); conv => whnf)
      | ((with_reducible refine forceL_rfv (by assumption) ?_); conv => whnf)
      | ((with_reducible refine forceNm_of ?_); conv => whnf)
      | ((with_reducible refine needm_of (fv_lenL (by assumption) (by assumption)) ?_); conv => whnf)
      | ((with_reducible refine optm_var (fv_strL (by assumption) (by assumption)) (fun s hs => ?_)); conv => whnf)
      | ((with_reducible refine forceA_of ?_); conv => whnf)
      | (refine Fn.frame [] ?_ ?_ ?_ (new7 a b c d e t ?_); (· rfl); (· exact trivial); (· rfl); conv => whnf))
  refine loopx_of (Inv a b c d e t (.rslc p len cap) len) len ?_ ?_
  · refine Into.weak [0, 1, 2] (F0 (.rslc p len cap) 0) (H0 a b c d e t 0 false 0 0 0 0 0 0 0 false ⟨#[]⟩) ⟨0, 0, false, 0, 0, 0, 0, 0, 0, 0, false, ⟨#[]⟩, rfl, rfl, Nat.zero_le _, rfl, by decide, by decide⟩ ⟨rfl, rfl, rfl, rfl, rfl, trivial⟩ ⟨rfl, rfl, rfl, trivial⟩ rfl
  · rintro m F H ⟨i, n, o, k0, k1, k2, k3, k4, k5, k6, k7, k8, rfl, rfl, hi, rfl, hn0, hn1⟩
    conv => whnf
    refine condm_of (fun h => ?_) (fun h => ?_)
    · have hil : i < len := by have := of_decide_eq_true h; omega
      obtain ⟨hf, hro⟩ := hG.get hil
      unfold KS at hf
      obtain ⟨kd, r0, e0, b0, g0⟩ := Fits.int hf
      obtain ⟨bd, r1, rfl, b1, g1⟩ := Fits.str g0
      obtain ⟨ow, r2, rfl, g2⟩ := Fits.bool g1
      obtain ⟨f0, r3, rfl, b3, g3⟩ := Fits.int g2
      obtain ⟨f1, r4, rfl, b4, g4⟩ := Fits.int g3
      obtain ⟨f2, r5, rfl, b5, g5⟩ := Fits.int g4
      obtain ⟨f3, r6, rfl, b6, g6⟩ := Fits.int g5
      obtain ⟨f4, r7, rfl, b7, g7⟩ := Fits.int g6
      obtain ⟨f5, r8, rfl, b8, g8⟩ := Fits.int g7
      obtain ⟨f6, r9, rfl, b9, g9⟩ := Fits.int g8
      obtain ⟨f7, r10, rfl, g10⟩ := Fits.bool g9
      obtain ⟨f8, r11, rfl, b11, g11⟩ := Fits.str g10
      obtain rfl := Fits.nil g11
      rw [e0] at hro
      have ld : ∀ j y, [A.int .i64 kd, .str bd, .bool ow, .int .u8 f0, .int .u8 f1, .int .u8 f2, .int .u16 f3, .int .u32 f4, .int .u64 f5, .int .u32 f6, .bool f7, .str f8][j]? = some y → roOf W ((p.add (i * 12)).add j) y := fun j y h => by rw [addr_add_add]; exact hro j y h
      have hw := wrapi hil hlen
      have hgf : 0 ≤ f6 ∧ f6 < 4294967296 := ⟨b9.1, Int.lt_of_le_of_lt b9.2 (by decide)⟩
      clear hro e0 g11 b0 b1 b3 b4 b5 b6 b7 b8 b9 g0 g1 g2 g3 g4 g5 g6 g7 g8 g9 g10 h hf hG
      conv => whnf
      repeat' (first
        | ((with_reducible refine regx_of ?_ ?_); (· decide +kernel); conv => whnf)
        | ((with_reducible refine growx_pre ?_ ?_); (· exact ⟨_, rfl⟩); conv => whnf)
        | ((with_reducible refine needm_of ?_ ?_); (· first | assumption | exact decide_eq_true (by omega) | decide +kernel | (refine decide_eq_true ?_; simp (disch := omega) only [i64w]; omega)); conv => whnf)
        | ((with_reducible refine condm_pos ?_ ?_); (· assumption); conv => whnf)
        | ((with_reducible refine condm_neg ?_ ?_); (· assumption); conv => whnf)
        | ((with_reducible refine forceL_fv (by assumption) ?_); conv => whnf)
        | ((with_reducible refine forceL_rfv (by assumption) ?_); conv => whnf)
        | ((with_reducible refine forceNm_of ?_); conv => whnf)
        | ((with_reducible refine needm_of (fv_lenL (by assumption) (by assumption)) ?_); conv => whnf)
        | ((with_reducible refine optm_var (fv_strL (by assumption) (by assumption)) (fun s hs => ?_)); conv => whnf)
        | ((with_reducible refine forceA_of ?_); conv => whnf)
        | (refine ⟨_, ld 0 _ rfl, ?_⟩; conv => whnf)
        | (refine ⟨_, ld 1 _ rfl, ?_⟩; conv => whnf)
        | (refine ⟨[A.int .i64 kd, .str bd, .bool ow, .int .u8 f0, .int .u8 f1, .int .u8 f2, .int .u16 f3, .int .u32 f4, .int .u64 f5, .int .u32 f6, .bool f7, .str f8], rfl, ld, ?_⟩; conv => whnf)
        | (refine Fn.frame [] ?_ ?_ ?_ (fitted a b c d e false kd bd ow f0 f1 f2 f3 f4 f5 f6 f7 f8 ?_); (· rfl); (· exact trivial); (· rfl); conv => whnf)
        | (refine Fn.frame [1] ?_ ?_ ?_ (take9 a b c d e t n o k0 k1 k2 k3 k4 k5 k6 k7 k8 (bif ow then e else f0) (bif ow then d else f1) (bif ow then a else f2) (bif ow then b else f3) (bif ow then c else f4) f5 f6 (bif ow then false else f7) f8 ⟨hn0, hn1⟩ hgf (fun h => ?_) (fun h => ?_) (fun h => ?_)); (· rfl); (· exact ⟨rfl, trivial⟩); (· rfl); all_goals (conv => whnf))
        | (refine Fn.frame [2] ?_ ?_ ?_ (take10 a b c d e t n o k0 k1 k2 k3 k4 k5 k6 k7 k8 (bif ow then e else f0) (bif ow then d else f1) (bif ow then a else f2) (bif ow then b else f3) (bif ow then c else f4) f5 f6 (bif ow then false else f7) f8 ⟨hn0, hn1⟩ hgf (fun h => ?_) (fun h => ?_) (fun h => ?_)); (· rfl); (· exact ⟨rfl, trivial⟩); (· rfl); all_goals (first | (exfalso; omega) | (conv => whnf)))
        | (refine Fn.frame [1] ?_ ?_ ?_ (reply11 a b c d e t n o k0 k1 k2 k3 k4 k5 k6 k7 k8 bd (fun h => ?_) (fun h => ?_)); (· rfl); (· exact ⟨rfl, trivial⟩); (· rfl); all_goals (conv => whnf))
        | (refine Fn.frame [2] ?_ ?_ ?_ (reply12 a b c d e t n o k0 k1 k2 k3 k4 k5 k6 k7 k8 bd (fun h => ?_) (fun h => ?_)); (· rfl); (· exact ⟨rfl, trivial⟩); (· rfl); all_goals (first | (exfalso; simp_all; done) | (conv => whnf)))
        | (refine Fn.frame [1] (by rfl) (by exact ⟨rfl, trivial⟩) (by rfl) (last13 _ _ _ _ _ _ _ _ _ _ _ _ _ _ _ _ _ ?_); conv => whnf)
        | ((with_reducible refine condm_pos ?_ ?_); (· simp; done); conv => whnf)
        | ((with_reducible refine condm_neg ?_ ?_); (· simp; done); conv => whnf)
        | ((with_reducible refine condm_of (fun h => ?_) (fun h => ?_)) <;> (conv => whnf))
        | ((with_reducible refine And.intro ?_ ?_) <;> (conv => whnf))
        | (refine ⟨_, EqAgg.of rfl, ?_⟩; conv => whnf)
        | (refine ⟨len - (i + 1), by omega, Into.weak [0, 1, 2] (F0 (.rslc p len cap) _) (H0 a b c d e t _ _ _ _ _ _ _ _ _ _ _) ?_ ⟨rfl, rfl, rfl, rfl, rfl, trivial⟩ ⟨rfl, rfl, rfl, trivial⟩ rfl⟩; exact ⟨i + 1, _, _, _, _, _, _, _, _, _, _, _, congrArg (F0 _) hw, rfl, by omega, rfl, by first | exact hn0 | exact hgf.1, by first | exact hn1 | exact hgf.2⟩))
    · conv => whnf
def KE : List Sc := [.int .u8, .int .u16, .int .u32, .int .u8, .int .u8]
set_option maxHeartbeats 0 in
theorem walk_nil (ro : Addr → A → Prop) (a b c d e t : Int) :
    Go.Eng.Fn Try.prog ro 3 [.g [.int .u8 a, .int .u16 b, .int .u32 c, .int .u8 d, .int .u8 e], .a (.int .u64 t), .a .nils] [] (fun v _ => v = .a (.bool true)) := by
  refine Go.Eng.Fn.of_code h3 Try.func3 rfl (Nat.le_of_ble_eq_true rfl) ?_
  conv => whnf
  repeat' (first
      | ((with_reducible refine regx_of ?_ ?_); (· decide +kernel); conv => whnf)
      | ((with_reducible refine growx_pre ?_ ?_); (· exact ⟨_, rfl⟩); conv => whnf)
      | ((with_reducible refine needm_of ?_ ?_); (· first | assumption | exact decide_eq_true (by omega) | decide +kernel | (refine decide_eq_true ?_; simp (disch := omega) only [i64w]; omega)); conv => whnf)
      | ((with_reducible refine condm_pos ?_ ?_); (· assumption); conv => whnf)
      | ((with_reducible refine condm_neg ?_ ?_); (· assumption); conv => whnf)
      | ((with_reducible refine forceL_fv (by assumption) ?_); conv => whnf)
      | ((with_reducible refine forceL_rfv (by assumption) ?_); conv => whnf)
      | ((with_reducible refine forceNm_of ?_); conv => whnf)
      | ((with_reducible refine needm_of (fv_lenL (by assumption) (by assumption)) ?_); conv => whnf)
      | ((with_reducible refine optm_var (fv_strL (by assumption) (by assumption)) (fun s hs => ?_)); conv => whnf)
      | ((with_reducible refine forceA_of ?_); conv => whnf)
      | (refine Fn.frame [] ?_ ?_ ?_ (new7 a b c d e t ?_); (· rfl); (· exact trivial); (· rfl); conv => whnf))
  refine loopx_iter 1 ?_
  conv => whnf
theorem top (W : World) (x : List A) (hx : Fits KE x) (t : Int) (ht : IntKind.u64.min ≤ t ∧ t ≤ IntKind.u64.max) (y : A) (len cap : Nat) (G : Nat → List A) (hG : IsSl W 12 KS y len cap G) :
    Go.Eng.Fn Try.prog (roOf W) 3 [.g x, .a (.int .u64 t), .a y] [] (fun v _ => v = .a (.bool true)) := by
  unfold KE at hx
  obtain ⟨a, r0, rfl, _, g0⟩ := Fits.int hx
  obtain ⟨b, r1, rfl, _, g1⟩ := Fits.int g0
  obtain ⟨c, r2, rfl, _, g2⟩ := Fits.int g1
  obtain ⟨d, r3, rfl, _, g3⟩ := Fits.int g2
  obtain ⟨e, r4, rfl, _, g4⟩ := Fits.int g3
  obtain rfl := Fits.nil g4
  rcases id hG with ⟨rfl, _⟩ | ⟨p, rfl, h1, h2, _⟩
  · exact walk_nil _ a b c d e t
  · exact walk W a b c d e t p len cap G hG (Nat.le_trans h1 h2)
end Go.Proofs.Ytefimkcfaoabpaa.TA
