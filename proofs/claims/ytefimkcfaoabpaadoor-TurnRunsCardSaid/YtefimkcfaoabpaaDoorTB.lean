import Derived.Test.YtefimkcfaoabpaaDoorEngH
import Derived.Test.YtefimkcfaoabpaaDoorProg
import Derived.Test.YtefimkcfaoabpaaDoorTT
namespace Go.Proofs.YtefimkcfaoabpaaDoor.TA
open Go.Eng
set_option maxRecDepth 100000
@[reducible] def st (a b c d e t n : Int) (o : Bool) (k0 k1 k2 k3 k4 k5 k6 : Int) (k7 : Bool) (k8 : ByteArray) : List A :=
  [.int .u8 a, .int .u16 b, .int .u32 c, .int .u8 d, .int .u8 e, .int .u64 t, .int .u32 n, .bool o, .int .u8 k0, .int .u8 k1, .int .u8 k2, .int .u16 k3, .int .u32 k4, .int .u64 k5, .int .u32 k6, .bool k7, .str k8]
@[reducible] def xc (a b c d e : Int) : List A := [.int .u8 a, .int .u16 b, .int .u32 c, .int .u8 d, .int .u8 e]
@[reducible] def fc (g0 g1 g2 g3 g4 g5 g6 : Int) (g7 : Bool) (g8 : ByteArray) : List A := [.int .u8 g0, .int .u8 g1, .int .u8 g2, .int .u16 g3, .int .u32 g4, .int .u64 g5, .int .u32 g6, .bool g7, .str g8]
theorem wrap32 (x : Int) (h0 : 0 ≤ x) (h1 : x < 4294967296) : IntKind.u32.wrap x = x := by
  simp only [IntKind.wrap, IntKind.signed, IntKind.bits]
  simp
  omega
theorem wrap64u (x : Int) (h0 : 0 ≤ x) (h1 : x < 18446744073709551616) : IntKind.u64.wrap x = x := by
  simp only [IntKind.wrap, IntKind.signed, IntKind.bits]
  simp
  omega
def oursq (a b c d e g0 g1 g2 g3 g4 : Int) : Bool := g0 == e && g1 == d && (g2 == a && (g3 == b && g4 == c))
def tk (a b c d e t n : Int) (o : Bool) (g0 g1 g2 g3 g4 g5 g6 : Int) (g7 : Bool) : Nat :=
  if o = false ∧ g7 = false ∧ oursq a b c d e g0 g1 g2 g3 g4 = true ∧ g5 = (if g6 = 1 then 0 else t) then if 0 < n ∧ g6 = n then 1 else if g6 = n + 1 then 2 else 0 else 0
@[reducible] def nofc : List A := fc 0 0 0 0 0 0 0 false ⟨#[]⟩
@[reducible] def sa (a b c d e t w r q : Int) (bd : ByteArray) (at_ go se : Int) (ov : Bool) : List A :=
  [.int .u8 a, .int .u16 b, .int .u32 c, .int .u8 d, .int .u8 e, .int .u64 t, .int .i64 w, .int .i64 r, .int .u32 q, .str bd, .int .i64 at_, .int .i64 go, .int .i64 se, .bool ov]
@[reducible] def tkA (a b c d e t q at_ g0 g1 g2 g3 g4 g5 g6 : Int) (g7 : Bool) : Prop := at_ ≠ 0 ∧ g7 = true ∧ oursq a b c d e g0 g1 g2 g3 g4 = true ∧ g6 = q ∧ (1 < q → g5 = t)
@[reducible] def okn (w r : Int) : Prop := 1 ≤ w ∧ w ≤ 1000 ∧ 1 ≤ r ∧ r ≤ 16
section
variable {ro : Addr → A → Prop} (a b c d e t n : Int) (o : Bool) (k0 k1 k2 k3 k4 k5 k6 : Int) (k7 : Bool) (k8 : ByteArray) (w r q : Int) (bd : ByteArray) (at_ go se : Int) (ov wt : Bool)
variable (g0 g1 g2 g3 g4 g5 g6 : Int) (g7 : Bool) (g8 : ByteArray)
set_option maxHeartbeats 0 in
theorem ours36 {K : V → Hp → Prop} (ty : Nat) (hk : ∀ q, q = oursq a b c d e g0 g1 g2 g3 g4 → K (.a (.bool q)) [.cells (st a b c d e t n o k0 k1 k2 k3 k4 k5 k6 k7 k8) ty false]) :
    Go.Eng.Fn Tryd.prog ro 17 [.a (.ptr 0 0), .g (fc g0 g1 g2 g3 g4 g5 g6 g7 g8)] [.cells (st a b c d e t n o k0 k1 k2 k3 k4 k5 k6 k7 k8) ty false] K := by
  refine Fn.weak ?_
  refine Fn.of_code TT.h17 Tryd.func17 rfl (Nat.le_of_ble_eq_true rfl) ?_
  conv => whnf
  repeat' (first
      | ((with_reducible refine y'r ?_ ?_); (· decide +kernel); conv => whnf)
      | ((with_reducible refine y'g ?_ ?_); (· exact ⟨_, rfl⟩); conv => whnf)
      | ((with_reducible refine y'b ‹_› ?_); conv => whnf)
      | ((with_reducible refine y'n ‹_› ?_); conv => whnf)
      | ((with_reducible refine y'1 ‹_› ?_); conv => whnf)
      | ((with_reducible refine y'2 ‹_› ?_); conv => whnf)
      | ((with_reducible refine y'3 ?_); conv => whnf)
      | ((with_reducible refine y'4 ?_); conv => whnf)
      | ((with_reducible refine y'n ?_ ?_); (· first | with_reducible assumption | exact decide_eq_true (by omega) | exact mkOK_of (by decide) | decide +kernel | (refine decide_eq_true ?_; simp (disch := omega) only [i64w]; omega)); conv => whnf)
      | ((with_reducible refine y'n (y'7 ‹_› ‹_›) ?_); conv => whnf)
      | ((with_reducible refine y'v (y'8 ‹_› ‹_›) (fun s hs => ?_)); conv => whnf)
      | ((with_reducible refine y'c (fun h => ?_) (fun h => ?_)) <;> (conv => whnf))
      | ((with_reducible refine And.intro ?_ ?_) <;> (conv => whnf))
      | (refine ⟨_, EqAgg.of rfl, ?_⟩; conv => whnf)
      | (refine ⟨_, _, [0], ?_, ?_, ?_, hk ?_ ?_⟩; (· rfl); (· exact ⟨rfl, trivial⟩); (· rfl); unfold oursq; grind))
set_option maxHeartbeats 0 in
theorem take9 (hn : 0 ≤ n ∧ n < 4294967296) (hg : 0 ≤ g6 ∧ g6 < 4294967296) {K : V → Hp → Prop}
    (hk0 : tk a b c d e t n o g0 g1 g2 g3 g4 g5 g6 g7 = 0 → K (.t [.a (.str ⟨#[]⟩), .a (.bool false), .g nofc, .a (.bool false)]) [.cells (st a b c d e t n o k0 k1 k2 k3 k4 k5 k6 k7 k8) 57 false])
    (hk1 : tk a b c d e t n o g0 g1 g2 g3 g4 g5 g6 g7 = 1 → K (.t [.a (.str ⟨#[]⟩), .a (.bool false), .g (fc k0 k1 k2 k3 k4 k5 k6 k7 k8), .a (.bool true)]) [.cells (st a b c d e t n o k0 k1 k2 k3 k4 k5 k6 k7 k8) 57 false])
    (hk2 : tk a b c d e t n o g0 g1 g2 g3 g4 g5 g6 g7 = 2 → K (.t [.a (.str g8), .a (.bool true), .g nofc, .a (.bool false)]) [.cells (st a b c d e t g6 true k0 k1 k2 k3 k4 k5 k6 k7 k8) 57 false]) :
    Go.Eng.Fn Tryd.prog ro 9 [.a (.ptr 0 0), .g (fc g0 g1 g2 g3 g4 g5 g6 g7 g8)] [.cells (st a b c d e t n o k0 k1 k2 k3 k4 k5 k6 k7 k8) 57 false] K := by
  have hws : 0 < g6 → IntKind.u32.wrap (g6 - 1) = g6 - 1 := fun h => wrap32 _ (by omega) (by omega)
  refine Fn.weak ?_
  refine Fn.of_code TT.h9 Tryd.func9 rfl (Nat.le_of_ble_eq_true rfl) ?_
  conv => whnf
  repeat' (first
      | ((with_reducible refine y'r ?_ ?_); (· decide +kernel); conv => whnf)
      | ((with_reducible refine y'g ?_ ?_); (· exact ⟨_, rfl⟩); conv => whnf)
      | ((with_reducible refine y'b ‹_› ?_); conv => whnf)
      | ((with_reducible refine y'n ‹_› ?_); conv => whnf)
      | ((with_reducible refine y'1 ‹_› ?_); conv => whnf)
      | ((with_reducible refine y'2 ‹_› ?_); conv => whnf)
      | ((with_reducible refine y'3 ?_); conv => whnf)
      | ((with_reducible refine y'4 ?_); conv => whnf)
      | ((with_reducible refine y'n ?_ ?_); (· first | with_reducible assumption | exact decide_eq_true (by omega) | exact mkOK_of (by decide) | decide +kernel | (refine decide_eq_true ?_; simp (disch := omega) only [i64w]; omega)); conv => whnf)
      | ((with_reducible refine y'n (y'7 ‹_› ‹_›) ?_); conv => whnf)
      | ((with_reducible refine y'v (y'8 ‹_› ‹_›) (fun s hs => ?_)); conv => whnf)
      | (refine Fn.frame [0] ?_ ?_ ?_ (ours36 a b c d e t n o k0 k1 k2 k3 k4 k5 k6 k7 k8 g0 g1 g2 g3 g4 g5 g6 g7 g8 57 (fun q hq => ?_)); (· rfl); (· exact ⟨rfl, trivial⟩); (· rfl); conv => whnf)
      | ((with_reducible refine y'c (fun h => ?_) (fun h => ?_)) <;> (conv => whnf))
      | ((with_reducible refine And.intro ?_ ?_) <;> (conv => whnf))
      | (refine ⟨_, EqAgg.of rfl, ?_⟩; conv => whnf)
      | (refine ⟨_, _, [0], ?_, ?_, ?_, hk0 ?_⟩; (· rfl); (· exact ⟨rfl, trivial⟩); (· rfl); clear hk0 hk1 hk2; unfold tk; grind)
      | (refine ⟨_, _, [0], ?_, ?_, ?_, hk1 ?_⟩; (· rfl); (· exact ⟨rfl, trivial⟩); (· rfl); clear hk0 hk1 hk2; unfold tk; grind)
      | (refine ⟨_, _, [0], ?_, ?_, ?_, hk2 ?_⟩; (· rfl); (· exact ⟨rfl, trivial⟩); (· rfl); clear hk0 hk1 hk2; unfold tk; grind))
set_option maxHeartbeats 0 in
theorem frame27 (seq : Int) (ans : Bool) (body : ByteArray) {K : V → Hp → Prop}
    (hk : K (.g (fc d e a b c t seq ans body)) [.cells (st a b c d e t n o k0 k1 k2 k3 k4 k5 k6 k7 k8) 57 false]) :
    Go.Eng.Fn Tryd.prog ro 18 [.a (.ptr 0 0), .a (.int .u32 seq), .a (.bool ans), .a (.str body)] [.cells (st a b c d e t n o k0 k1 k2 k3 k4 k5 k6 k7 k8) 57 false] K := by
  refine Fn.weak ?_
  refine Fn.of_code TT.h18 Tryd.func18 rfl (Nat.le_of_ble_eq_true rfl) ?_
  conv => whnf
  repeat' (first
      | ((with_reducible refine y'r ?_ ?_); (· decide +kernel); conv => whnf)
      | ((with_reducible refine y'g ?_ ?_); (· exact ⟨_, rfl⟩); conv => whnf)
      | ((with_reducible refine y'b ‹_› ?_); conv => whnf)
      | ((with_reducible refine y'n ‹_› ?_); conv => whnf)
      | ((with_reducible refine y'1 ‹_› ?_); conv => whnf)
      | ((with_reducible refine y'2 ‹_› ?_); conv => whnf)
      | ((with_reducible refine y'3 ?_); conv => whnf)
      | ((with_reducible refine y'4 ?_); conv => whnf)
      | ((with_reducible refine y'n ?_ ?_); (· first | with_reducible assumption | exact decide_eq_true (by omega) | exact mkOK_of (by decide) | decide +kernel | (refine decide_eq_true ?_; simp (disch := omega) only [i64w]; omega)); conv => whnf)
      | ((with_reducible refine y'n (y'7 ‹_› ‹_›) ?_); conv => whnf)
      | ((with_reducible refine y'v (y'8 ‹_› ‹_›) (fun s hs => ?_)); conv => whnf)
      | (refine ⟨_, _, [0], ?_, ?_, ?_, hk⟩; (· rfl); (· exact ⟨rfl, trivial⟩); (· rfl)))
set_option maxHeartbeats 0 in
theorem reply11 (body : ByteArray) {K : V → Hp → Prop}
    (hk0 : o = false → K (.t [.g nofc, .a (.int .i64 5)]) [.cells (st a b c d e t n o k0 k1 k2 k3 k4 k5 k6 k7 k8) 57 false])
    (hk1 : o = true → K (.t [.g (fc d e a b c t n true body), .a (.int .i64 0)]) [.cells (st a b c d e t n false d e a b c t n true body) 57 false]) :
    Go.Eng.Fn Tryd.prog ro 10 [.a (.ptr 0 0), .a (.str body)] [.cells (st a b c d e t n o k0 k1 k2 k3 k4 k5 k6 k7 k8) 57 false] K := by
  cases o
  all_goals
    simp only [forall_const, false_imp_iff, reduceCtorEq] at hk0 hk1
    refine Fn.weak ?_
    refine Fn.of_code TT.h10 Tryd.func10 rfl (Nat.le_of_ble_eq_true rfl) ?_
    conv => whnf
    repeat' (first
      | ((with_reducible refine y'r ?_ ?_); (· decide +kernel); conv => whnf)
      | ((with_reducible refine y'g ?_ ?_); (· exact ⟨_, rfl⟩); conv => whnf)
      | ((with_reducible refine y'b ‹_› ?_); conv => whnf)
      | ((with_reducible refine y'n ‹_› ?_); conv => whnf)
      | ((with_reducible refine y'1 ‹_› ?_); conv => whnf)
      | ((with_reducible refine y'2 ‹_› ?_); conv => whnf)
      | ((with_reducible refine y'3 ?_); conv => whnf)
      | ((with_reducible refine y'4 ?_); conv => whnf)
      | ((with_reducible refine y'n ?_ ?_); (· first | with_reducible assumption | exact decide_eq_true (by omega) | exact mkOK_of (by decide) | decide +kernel | (refine decide_eq_true ?_; simp (disch := omega) only [i64w]; omega)); conv => whnf)
      | ((with_reducible refine y'n (y'7 ‹_› ‹_›) ?_); conv => whnf)
      | ((with_reducible refine y'v (y'8 ‹_› ‹_›) (fun s hs => ?_)); conv => whnf)
      | (refine Fn.frame [0] ?_ ?_ ?_ (frame27 a b c d e t n false k0 k1 k2 k3 k4 k5 k6 k7 k8 n true body ?_); (· rfl); (· exact ⟨rfl, trivial⟩); (· rfl); conv => whnf)
      | (refine ⟨_, _, [0], ?_, ?_, ?_, hk0⟩; (· rfl); (· exact ⟨rfl, trivial⟩); (· rfl))
      | (refine ⟨_, _, [0], ?_, ?_, ?_, hk1⟩; (· rfl); (· exact ⟨rfl, trivial⟩); (· rfl)))
set_option maxHeartbeats 0 in
theorem new7 {K : V → Hp → Prop} (hk : K (.a (.ptr 0 0)) [.cells (st a b c d e t 0 false 0 0 0 0 0 0 0 false ⟨#[]⟩) 57 false]) :
    Go.Eng.Fn Tryd.prog ro 6 [.g [.int .u8 a, .int .u16 b, .int .u32 c], .a (.int .u8 d), .a (.int .u8 e), .a (.int .u64 t)] [] K := by
  refine Fn.weak ?_
  refine Fn.of_code (gOf []) Tryd.func6 rfl (Nat.le_of_ble_eq_true rfl) ?_
  conv => whnf
  repeat' (first
      | ((with_reducible refine y'r ?_ ?_); (· decide +kernel); conv => whnf)
      | ((with_reducible refine y'g ?_ ?_); (· exact ⟨_, rfl⟩); conv => whnf)
      | ((with_reducible refine y'b ‹_› ?_); conv => whnf)
      | ((with_reducible refine y'n ‹_› ?_); conv => whnf)
      | ((with_reducible refine y'1 ‹_› ?_); conv => whnf)
      | ((with_reducible refine y'2 ‹_› ?_); conv => whnf)
      | ((with_reducible refine y'3 ?_); conv => whnf)
      | ((with_reducible refine y'4 ?_); conv => whnf)
      | ((with_reducible refine y'n ?_ ?_); (· first | with_reducible assumption | exact decide_eq_true (by omega) | exact mkOK_of (by decide) | decide +kernel | (refine decide_eq_true ?_; simp (disch := omega) only [i64w]; omega)); conv => whnf)
      | ((with_reducible refine y'n (y'7 ‹_› ‹_›) ?_); conv => whnf)
      | ((with_reducible refine y'v (y'8 ‹_› ‹_›) (fun s hs => ?_)); conv => whnf)
      | (refine ⟨_, _, [1], ?_, ?_, ?_, hk⟩; (· rfl); (· exact ⟨rfl, trivial⟩); (· rfl)))
set_option maxHeartbeats 0 in
theorem oursA {K : V → Hp → Prop} (hk : ∀ x, x = oursq a b c d e g0 g1 g2 g3 g4 → K (.a (.bool x)) [.cells (sa a b c d e t w r q bd at_ go se ov) 55 false]) :
    Go.Eng.Fn Tryd.prog ro 17 [.a (.ptr 0 0), .g (fc g0 g1 g2 g3 g4 g5 g6 g7 g8)] [.cells (sa a b c d e t w r q bd at_ go se ov) 55 false] K := by
  refine Fn.weak ?_
  refine Fn.of 1 TT.h17 rfl Tryd.func17 rfl (Nat.le_of_ble_eq_true rfl) ?_
  conv => whnf
  repeat' (first
      | ((with_reducible refine y'r ?_ ?_); (· decide +kernel); conv => whnf)
      | ((with_reducible refine y'g ?_ ?_); (· exact ⟨_, rfl⟩); conv => whnf)
      | ((with_reducible refine y'b ‹_› ?_); conv => whnf)
      | ((with_reducible refine y'n ‹_› ?_); conv => whnf)
      | ((with_reducible refine y'1 ‹_› ?_); conv => whnf)
      | ((with_reducible refine y'2 ‹_› ?_); conv => whnf)
      | ((with_reducible refine y'3 ?_); conv => whnf)
      | ((with_reducible refine y'4 ?_); conv => whnf)
      | ((with_reducible refine y'n ?_ ?_); (· first | with_reducible assumption | exact decide_eq_true (by omega) | exact mkOK_of (by decide) | decide +kernel | (refine decide_eq_true ?_; simp (disch := omega) only [i64w]; omega)); conv => whnf)
      | ((with_reducible refine y'n (y'7 ‹_› ‹_›) ?_); conv => whnf)
      | ((with_reducible refine y'v (y'8 ‹_› ‹_›) (fun s hs => ?_)); conv => whnf)
      | ((with_reducible refine y'c (fun h => ?_) (fun h => ?_)) <;> (conv => whnf))
      | ((with_reducible refine And.intro ?_ ?_) <;> (conv => whnf))
      | (refine ⟨_, EqAgg.of rfl, ?_⟩; conv => whnf)
      | (refine ⟨_, _, [0], ?_, ?_, ?_, hk ?_ ?_⟩; (· rfl); (· exact ⟨rfl, trivial⟩); (· rfl); unfold oursq; grind))
set_option maxHeartbeats 0 in
theorem frameA (seq : Int) (ans : Bool) (body : ByteArray) {K : V → Hp → Prop}
    (hk : K (.g (fc d e a b c t seq ans body)) [.cells (sa a b c d e t w r q bd at_ go se ov) 55 false]) :
    Go.Eng.Fn Tryd.prog ro 18 [.a (.ptr 0 0), .a (.int .u32 seq), .a (.bool ans), .a (.str body)] [.cells (sa a b c d e t w r q bd at_ go se ov) 55 false] K := by
  refine Fn.weak ?_
  refine Fn.of 1 TT.h18 rfl Tryd.func18 rfl (Nat.le_of_ble_eq_true rfl) ?_
  conv => whnf
  repeat' (first
      | ((with_reducible refine y'r ?_ ?_); (· decide +kernel); conv => whnf)
      | ((with_reducible refine y'g ?_ ?_); (· exact ⟨_, rfl⟩); conv => whnf)
      | ((with_reducible refine y'b ‹_› ?_); conv => whnf)
      | ((with_reducible refine y'n ‹_› ?_); conv => whnf)
      | ((with_reducible refine y'1 ‹_› ?_); conv => whnf)
      | ((with_reducible refine y'2 ‹_› ?_); conv => whnf)
      | ((with_reducible refine y'3 ?_); conv => whnf)
      | ((with_reducible refine y'4 ?_); conv => whnf)
      | ((with_reducible refine y'n ?_ ?_); (· first | with_reducible assumption | exact decide_eq_true (by omega) | exact mkOK_of (by decide) | decide +kernel | (refine decide_eq_true ?_; simp (disch := omega) only [i64w]; omega)); conv => whnf)
      | ((with_reducible refine y'n (y'7 ‹_› ‹_›) ?_); conv => whnf)
      | ((with_reducible refine y'v (y'8 ‹_› ‹_›) (fun s hs => ?_)); conv => whnf)
      | (refine ⟨_, _, [0], ?_, ?_, ?_, hk⟩; (· rfl); (· exact ⟨rfl, trivial⟩); (· rfl)))
set_option maxHeartbeats 0 in
theorem send28 {K : V → Hp → Prop} (hk : ∀ x y, x = IntKind.i64.wrap (at_ + 1) → y = IntKind.i64.wrap (se + 1) → K (.g (fc d e a b c t q false bd)) [.cells (sa a b c d e t w r q bd x 0 y ov) 55 false]) :
    Go.Eng.Fn Tryd.prog ro 16 [.a (.ptr 0 0)] [.cells (sa a b c d e t w r q bd at_ go se ov) 55 false] K := by
  refine Fn.weak ?_
  refine Fn.of 1 TT.h16 rfl Tryd.func16 rfl (Nat.le_of_ble_eq_true rfl) ?_
  conv => whnf
  repeat' (first
      | ((with_reducible refine y'r ?_ ?_); (· decide +kernel); conv => whnf)
      | ((with_reducible refine y'g ?_ ?_); (· exact ⟨_, rfl⟩); conv => whnf)
      | ((with_reducible refine y'b ‹_› ?_); conv => whnf)
      | ((with_reducible refine y'n ‹_› ?_); conv => whnf)
      | ((with_reducible refine y'1 ‹_› ?_); conv => whnf)
      | ((with_reducible refine y'2 ‹_› ?_); conv => whnf)
      | ((with_reducible refine y'3 ?_); conv => whnf)
      | ((with_reducible refine y'4 ?_); conv => whnf)
      | ((with_reducible refine y'n ?_ ?_); (· first | with_reducible assumption | exact decide_eq_true (by omega) | exact mkOK_of (by decide) | decide +kernel | (refine decide_eq_true ?_; simp (disch := omega) only [i64w]; omega)); conv => whnf)
      | ((with_reducible refine y'n (y'7 ‹_› ‹_›) ?_); conv => whnf)
      | ((with_reducible refine y'v (y'8 ‹_› ‹_›) (fun s hs => ?_)); conv => whnf)
      | (refine Fn.frame [0] (by rfl) (by exact ⟨rfl, trivial⟩) (by rfl) (frameA _ _ _ _ _ _ _ _ _ _ _ _ _ _ _ _ _ ?_); conv => whnf)
      | (refine ⟨_, _, [0], ?_, ?_, ?_, hk _ _ rfl rfl⟩; (· rfl); (· exact ⟨rfl, trivial⟩); (· rfl)))
set_option maxHeartbeats 0 in
theorem ask16 (body : ByteArray) {K : V → Hp → Prop}
    (hk1 : ov = true → K (.t [.g nofc, .a (.int .i64 5)]) [.cells (sa a b c d e t w r q bd at_ go se ov) 55 false])
    (hk2 : ov = false → 0 < at_ → K (.t [.g nofc, .a (.int .i64 250)]) [.cells (sa a b c d e t w r q bd at_ go se ov) 55 false])
    (hk3 : ov = false → at_ ≤ 0 → q = 4294967295 → K (.t [.g nofc, .a (.int .i64 101)]) [.cells (sa a b c d e t w r q bd at_ go se ov) 55 false])
    (hk4 : ov = false → at_ ≤ 0 → q ≠ 4294967295 → ∀ z x y, z = IntKind.u32.wrap (q + 1) → x = IntKind.i64.wrap (at_ + 1) → y = IntKind.i64.wrap (se + 1) → K (.t [.g (fc d e a b c t z false body), .a (.int .i64 0)]) [.cells (sa a b c d e t w r z body x 0 y ov) 55 false]) :
    Go.Eng.Fn Tryd.prog ro 8 [.a (.ptr 0 0), .a (.str body)] [.cells (sa a b c d e t w r q bd at_ go se ov) 55 false] K := by
  refine Fn.weak ?_
  refine Fn.of 1 (gOf []) rfl Tryd.func8 rfl (Nat.le_of_ble_eq_true rfl) ?_
  conv => whnf
  repeat' (first
      | ((with_reducible refine y'r ?_ ?_); (· decide +kernel); conv => whnf)
      | ((with_reducible refine y'g ?_ ?_); (· exact ⟨_, rfl⟩); conv => whnf)
      | ((with_reducible refine y'b ‹_› ?_); conv => whnf)
      | ((with_reducible refine y'n ‹_› ?_); conv => whnf)
      | ((with_reducible refine y'1 ‹_› ?_); conv => whnf)
      | ((with_reducible refine y'2 ‹_› ?_); conv => whnf)
      | ((with_reducible refine y'3 ?_); conv => whnf)
      | ((with_reducible refine y'4 ?_); conv => whnf)
      | ((with_reducible refine y'n ?_ ?_); (· first | with_reducible assumption | exact decide_eq_true (by omega) | exact mkOK_of (by decide) | decide +kernel | (refine decide_eq_true ?_; simp (disch := omega) only [i64w]; omega)); conv => whnf)
      | ((with_reducible refine y'n (y'7 ‹_› ‹_›) ?_); conv => whnf)
      | ((with_reducible refine y'v (y'8 ‹_› ‹_›) (fun s hs => ?_)); conv => whnf)
      | (refine Fn.frame [0] (by rfl) (by exact ⟨rfl, trivial⟩) (by rfl) (send28 _ _ _ _ _ _ _ _ _ _ _ _ _ _ (fun x y hx hy => ?_)); conv => whnf)
      | ((with_reducible refine y'c (fun h => ?_) (fun h => ?_)) <;> (conv => whnf))
      | ((with_reducible refine And.intro ?_ ?_) <;> (conv => whnf))
      | (refine ⟨_, _, [0], ?_, ?_, ?_, hk1 ?_⟩; (· rfl); (· exact ⟨rfl, trivial⟩); (· rfl); simp_all; done)
      | (refine ⟨_, _, [0], ?_, ?_, ?_, hk2 ?_ ?_⟩; (· rfl); (· exact ⟨rfl, trivial⟩); (· rfl); (· simp_all; done); simp_all; done)
      | (refine ⟨_, _, [0], ?_, ?_, ?_, hk3 ?_ ?_ ?_⟩; (· rfl); (· exact ⟨rfl, trivial⟩); (· rfl); (· simp_all; done); (· simp_all; done); simp_all; done)
      | (refine ⟨_, _, [0], ?_, ?_, ?_, hk4 ?_ ?_ ?_ _ _ _ rfl ‹_› ‹_›⟩; (· rfl); (· exact ⟨rfl, trivial⟩); (· rfl); (· simp_all; done); (· simp_all; done); simp_all; done))
set_option maxHeartbeats 0 in
theorem tick18 {K : V → Hp → Prop}
    (hk1 : ov = true → K (.t [.g nofc, .a (.bool false), .a (.int .i64 5)]) [.cells (sa a b c d e t w r q bd at_ go se ov) 55 false])
    (hk2 : ov = false → at_ = 0 → K (.t [.g nofc, .a (.bool false), .a (.int .i64 0)]) [.cells (sa a b c d e t w r q bd at_ go se ov) 55 false])
    (hk3 : ov = false → at_ ≠ 0 → ∀ x, x = IntKind.i64.wrap (go + 1) → x < w → K (.t [.g nofc, .a (.bool false), .a (.int .i64 0)]) [.cells (sa a b c d e t w r q bd at_ x se ov) 55 false])
    (hk4 : ov = false → at_ ≠ 0 → ∀ x, x = IntKind.i64.wrap (go + 1) → w ≤ x → at_ = r → K (.t [.g nofc, .a (.bool false), .a (.int .i64 230)]) [.cells (sa a b c d e t w r q bd 0 x se true) 55 false])
    (hk5 : ov = false → at_ ≠ 0 → ∀ x, x = IntKind.i64.wrap (go + 1) → w ≤ x → at_ ≠ r → ∀ y z, y = IntKind.i64.wrap (at_ + 1) → z = IntKind.i64.wrap (se + 1) → K (.t [.g (fc d e a b c t q false bd), .a (.bool true), .a (.int .i64 0)]) [.cells (sa a b c d e t w r q bd y 0 z ov) 55 false]) :
    Go.Eng.Fn Tryd.prog ro 14 [.a (.ptr 0 0)] [.cells (sa a b c d e t w r q bd at_ go se ov) 55 false] K := by
  refine Fn.weak ?_
  refine Fn.of 1 TT.h14 rfl Tryd.func14 rfl (Nat.le_of_ble_eq_true rfl) ?_
  conv => whnf
  repeat' (first
      | ((with_reducible refine y'r ?_ ?_); (· decide +kernel); conv => whnf)
      | ((with_reducible refine y'g ?_ ?_); (· exact ⟨_, rfl⟩); conv => whnf)
      | ((with_reducible refine y'b ‹_› ?_); conv => whnf)
      | ((with_reducible refine y'n ‹_› ?_); conv => whnf)
      | ((with_reducible refine y'1 ‹_› ?_); conv => whnf)
      | ((with_reducible refine y'2 ‹_› ?_); conv => whnf)
      | ((with_reducible refine y'3 ?_); conv => whnf)
      | ((with_reducible refine y'4 ?_); conv => whnf)
      | ((with_reducible refine y'n ?_ ?_); (· first | with_reducible assumption | exact decide_eq_true (by omega) | exact mkOK_of (by decide) | decide +kernel | (refine decide_eq_true ?_; simp (disch := omega) only [i64w]; omega)); conv => whnf)
      | ((with_reducible refine y'n (y'7 ‹_› ‹_›) ?_); conv => whnf)
      | ((with_reducible refine y'v (y'8 ‹_› ‹_›) (fun s hs => ?_)); conv => whnf)
      | (refine Fn.frame [0] (by rfl) (by exact ⟨rfl, trivial⟩) (by rfl) (send28 _ _ _ _ _ _ _ _ _ _ _ _ _ _ (fun x y hx hy => ?_)); conv => whnf)
      | ((with_reducible refine y'c (fun h => ?_) (fun h => ?_)) <;> (conv => whnf))
      | ((with_reducible refine And.intro ?_ ?_) <;> (conv => whnf))
      | (refine ⟨_, _, [0], ?_, ?_, ?_, hk1 ?_⟩; (· rfl); (· exact ⟨rfl, trivial⟩); (· rfl); simp_all; done)
      | (refine ⟨_, _, [0], ?_, ?_, ?_, hk2 ?_ ?_⟩; (· rfl); (· exact ⟨rfl, trivial⟩); (· rfl); (· simp_all; done); simp_all; done)
      | (refine ⟨_, _, [0], ?_, ?_, ?_, hk3 ?_ ?_ _ rfl ?_⟩; (· rfl); (· exact ⟨rfl, trivial⟩); (· rfl); (· simp_all; done); (· simp_all; done); simp_all; done)
      | (refine ⟨_, _, [0], ?_, ?_, ?_, hk4 ?_ ?_ _ rfl ?_ ?_⟩; (· rfl); (· exact ⟨rfl, trivial⟩); (· rfl); (· simp_all; done); (· simp_all; done); (· simp_all; done); simp_all; done)
      | (refine ⟨_, _, [0], ?_, ?_, ?_, hk5 ?_ ?_ _ rfl ?_ ?_ _ _ ‹_› ‹_›⟩; (· rfl); (· exact ⟨rfl, trivial⟩); (· rfl); (· simp_all; done); (· simp_all; done); (· simp_all; done); simp_all; done))
set_option maxHeartbeats 0 in
theorem take20 {K : V → Hp → Prop}
    (hk0 : ¬ tkA a b c d e t q at_ g0 g1 g2 g3 g4 g5 g6 g7 → K (.t [.a (.str ⟨#[]⟩), .a (.bool false)]) [.cells (sa a b c d e t w r q bd at_ go se ov) 55 false])
    (hk1 : tkA a b c d e t q at_ g0 g1 g2 g3 g4 g5 g6 g7 → K (.t [.a (.str g8), .a (.bool true)]) [.cells (sa a b c d e g5 w r q bd 0 go se ov) 55 false]) :
    Go.Eng.Fn Tryd.prog ro 11 [.a (.ptr 0 0), .g (fc g0 g1 g2 g3 g4 g5 g6 g7 g8)] [.cells (sa a b c d e t w r q bd at_ go se ov) 55 false] K := by
  refine Fn.weak ?_
  refine Fn.of 1 TT.h11 rfl Tryd.func11 rfl (Nat.le_of_ble_eq_true rfl) ?_
  conv => whnf
  repeat' (first
      | ((with_reducible refine y'r ?_ ?_); (· decide +kernel); conv => whnf)
      | ((with_reducible refine y'g ?_ ?_); (· exact ⟨_, rfl⟩); conv => whnf)
      | ((with_reducible refine y'b ‹_› ?_); conv => whnf)
      | ((with_reducible refine y'n ‹_› ?_); conv => whnf)
      | ((with_reducible refine y'1 ‹_› ?_); conv => whnf)
      | ((with_reducible refine y'2 ‹_› ?_); conv => whnf)
      | ((with_reducible refine y'3 ?_); conv => whnf)
      | ((with_reducible refine y'4 ?_); conv => whnf)
      | ((with_reducible refine y'n ?_ ?_); (· first | with_reducible assumption | exact decide_eq_true (by omega) | exact mkOK_of (by decide) | decide +kernel | (refine decide_eq_true ?_; simp (disch := omega) only [i64w]; omega)); conv => whnf)
      | ((with_reducible refine y'n (y'7 ‹_› ‹_›) ?_); conv => whnf)
      | ((with_reducible refine y'v (y'8 ‹_› ‹_›) (fun s hs => ?_)); conv => whnf)
      | (refine Fn.frame [0] (by rfl) (by exact ⟨rfl, trivial⟩) (by rfl) (oursA a b c d e t w r q bd at_ go se ov g0 g1 g2 g3 g4 g5 g6 g7 g8 (fun x hx => ?_)); conv => whnf)
      | ((with_reducible refine y'c (fun h => ?_) (fun h => ?_)) <;> (conv => whnf))
      | ((with_reducible refine And.intro ?_ ?_) <;> (conv => whnf))
      | (refine ⟨_, _, [0], ?_, ?_, ?_, hk0 ?_⟩; (· rfl); (· exact ⟨rfl, trivial⟩); (· rfl); clear hk0 hk1; unfold tkA; grind)
      | (refine ⟨_, _, [0], ?_, ?_, ?_, hk1 ?_⟩; (· rfl); (· exact ⟨rfl, trivial⟩); (· rfl); clear hk0 hk1; unfold tkA; grind))
set_option maxHeartbeats 0 in
theorem new14 {K : V → Hp → Prop}
    (hk0 : ¬ okn w r → K (.t [.a .nilp, .a (.int .i64 1)]) [])
    (hk1 : okn w r → K (.t [.a (.ptr 0 0), .a (.int .i64 0)]) [.cells (sa a b c d e 0 w r 0 ⟨#[]⟩ 0 0 0 false) 55 false]) :
    Go.Eng.Fn Tryd.prog ro 5 [.g [.int .u8 a, .int .u16 b, .int .u32 c], .a (.int .u8 d), .a (.int .u8 e), .a (.int .i64 w), .a (.int .i64 r)] [] K := by
  refine Fn.weak ?_
  refine Fn.of 0 (gOf []) rfl Tryd.func5 rfl (Nat.le_of_ble_eq_true rfl) ?_
  conv => whnf
  repeat' (first
      | ((with_reducible refine y'r ?_ ?_); (· decide +kernel); conv => whnf)
      | ((with_reducible refine y'g ?_ ?_); (· exact ⟨_, rfl⟩); conv => whnf)
      | ((with_reducible refine y'b ‹_› ?_); conv => whnf)
      | ((with_reducible refine y'n ‹_› ?_); conv => whnf)
      | ((with_reducible refine y'1 ‹_› ?_); conv => whnf)
      | ((with_reducible refine y'2 ‹_› ?_); conv => whnf)
      | ((with_reducible refine y'3 ?_); conv => whnf)
      | ((with_reducible refine y'4 ?_); conv => whnf)
      | ((with_reducible refine y'n ?_ ?_); (· first | with_reducible assumption | exact decide_eq_true (by omega) | exact mkOK_of (by decide) | decide +kernel | (refine decide_eq_true ?_; simp (disch := omega) only [i64w]; omega)); conv => whnf)
      | ((with_reducible refine y'n (y'7 ‹_› ‹_›) ?_); conv => whnf)
      | ((with_reducible refine y'v (y'8 ‹_› ‹_›) (fun s hs => ?_)); conv => whnf)
      | ((with_reducible refine y'c (fun h => ?_) (fun h => ?_)) <;> (conv => whnf))
      | ((with_reducible refine And.intro ?_ ?_) <;> (conv => whnf))
      | (refine ⟨_, _, [], ?_, ?_, ?_, hk0 ?_⟩; (· rfl); (· exact trivial); (· rfl); clear hk0 hk1; unfold okn; grind)
      | (refine ⟨_, _, [1], ?_, ?_, ?_, hk1 ?_⟩; (· rfl); (· exact ⟨rfl, trivial⟩); (· rfl); clear hk0 hk1; unfold okn; grind))
set_option maxHeartbeats 0 in
theorem ticket23 {K : V → Hp → Prop} (hk : K (.a (.int .u64 t)) [.cells (sa a b c d e t w r q bd at_ go se ov) 55 false]) :
    Go.Eng.Fn Tryd.prog ro 12 [.a (.ptr 0 0)] [.cells (sa a b c d e t w r q bd at_ go se ov) 55 false] K := by
  refine Fn.weak ?_
  refine Fn.of 1 (gOf []) rfl Tryd.func12 rfl (Nat.le_of_ble_eq_true rfl) ?_
  conv => whnf
  repeat' (first
      | ((with_reducible refine y'r ?_ ?_); (· decide +kernel); conv => whnf)
      | ((with_reducible refine y'g ?_ ?_); (· exact ⟨_, rfl⟩); conv => whnf)
      | ((with_reducible refine y'b ‹_› ?_); conv => whnf)
      | ((with_reducible refine y'n ‹_› ?_); conv => whnf)
      | ((with_reducible refine y'1 ‹_› ?_); conv => whnf)
      | ((with_reducible refine y'2 ‹_› ?_); conv => whnf)
      | ((with_reducible refine y'3 ?_); conv => whnf)
      | ((with_reducible refine y'4 ?_); conv => whnf)
      | ((with_reducible refine y'n ?_ ?_); (· first | with_reducible assumption | exact decide_eq_true (by omega) | exact mkOK_of (by decide) | decide +kernel | (refine decide_eq_true ?_; simp (disch := omega) only [i64w]; omega)); conv => whnf)
      | ((with_reducible refine y'n (y'7 ‹_› ‹_›) ?_); conv => whnf)
      | ((with_reducible refine y'v (y'8 ‹_› ‹_›) (fun s hs => ?_)); conv => whnf)
      | (refine ⟨_, _, [0], ?_, ?_, ?_, hk⟩; (· rfl); (· exact ⟨rfl, trivial⟩); (· rfl)))
end
end Go.Proofs.YtefimkcfaoabpaaDoor.TA
