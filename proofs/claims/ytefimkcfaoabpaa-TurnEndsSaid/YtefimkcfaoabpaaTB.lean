import Derived.Test.YtefimkcfaoabpaaEngH
import Derived.Test.YtefimkcfaoabpaaProg
namespace Go.Proofs.Ytefimkcfaoabpaa.TA
open Go.Eng
set_option maxRecDepth 100000
def h3 : Hints := gOf [(10, [5], []), (20, [1], [(0, 2), (2, 2), (3, 2), (4, 2), (5, 1), (1, 0), (6, 0)])]
def h4 : Hints := gOf [(22, [5], []), (27, [1, 9, 18], [(0, 2), (2, 2), (3, 2), (4, 2), (5, 1), (1, 0), (6, 0), (7, 0), (8, 2), (10, 2), (11, 2), (12, 2), (13, 1), (9, 0), (14, 0), (15, 0), (16, 0), (17, 2), (19, 2), (20, 2), (21, 2), (22, 1), (18, 0), (23, 0), (24, 0)])]
def h9 : Hints := gOf [(1, [17], [(0, 0), (1, 0), (2, 0), (3, 0), (4, 0), (5, 0), (6, 0), (7, 0), (8, 0), (9, 0), (10, 0), (11, 0), (12, 0), (13, 2), (14, 2), (15, 2), (16, 0), (17, 0), (18, 0), (19, 0)]), (6, [], [(0, 0), (1, 0), (2, 0), (3, 0), (4, 0), (5, 0), (6, 2), (7, 1), (8, 0), (9, 0), (10, 0), (11, 0), (12, 0), (13, 0), (14, 0)]), (7, [], [(0, 2), (1, 2), (2, 2), (3, 1), (4, 0), (5, 0), (6, 0), (7, 0)]), (8, [], [(0, 0), (1, 0), (2, 0), (3, 0), (4, 2), (5, 1), (6, 2), (7, 0), (8, 0), (9, 0), (10, 0), (11, 0), (12, 0), (13, 0)])]
def h10 : Hints := gOf [(1, [], [(0, 0), (1, 0), (2, 0), (3, 0), (4, 0), (5, 0), (6, 0), (7, 2), (8, 1), (9, 0), (10, 0), (11, 0), (12, 0), (13, 0), (14, 0), (15, 0), (16, 2), (17, 1), (18, 0), (19, 0), (20, 0), (21, 0), (22, 0), (23, 0), (24, 0), (25, 2), (26, 1), (27, 0), (28, 0), (29, 0), (30, 0), (31, 0), (32, 0), (33, 0), (34, 0), (35, 0), (36, 0), (37, 0), (38, 0)]), (3, [], [(0, 0), (1, 0), (2, 0), (3, 0), (4, 0), (5, 0), (6, 0), (7, 0), (8, 0), (9, 0), (10, 0), (11, 0), (12, 0), (13, 2), (14, 1), (15, 0), (16, 0), (17, 0), (18, 0), (19, 0), (20, 0), (21, 0), (22, 0)]), (6, [], [(0, 0), (1, 0), (2, 0), (3, 0), (4, 0), (5, 0), (6, 2), (7, 1), (8, 0), (9, 0), (10, 0), (11, 0), (12, 0), (13, 0)]), (7, [], [(0, 2), (1, 2), (2, 2), (3, 1), (4, 0), (5, 0), (6, 0), (7, 0)]), (8, [], [])]
def h11 : Hints := gOf [(6, [9], [(0, 2), (1, 2), (2, 2), (3, 2), (4, 2), (5, 2), (6, 2), (7, 1), (8, 0), (9, 0), (10, 0), (11, 0), (12, 0)])]
def h12 : Hints := gOf [(6, [], [(0, 2), (1, 2), (2, 2), (3, 2), (4, 1), (5, 2), (6, 2), (7, 2), (8, 1), (9, 2), (10, 2), (11, 2), (12, 1), (13, 2), (14, 2), (15, 2), (16, 1), (17, 2), (18, 2), (19, 2), (20, 1), (21, 0), (22, 0), (23, 0), (24, 0), (25, 0)])]
def h18 : Hints := gOf [(8, [], [(0, 2), (1, 2), (2, 2), (3, 1), (4, 0), (5, 0), (6, 0), (7, 0), (8, 0), (9, 0)]), (10, [], [(0, 2), (1, 2), (2, 2), (3, 1), (4, 0), (5, 0), (6, 0), (7, 0), (8, 0), (9, 0)])]
def h19 : Hints := gOf [(8, [], [(0, 2), (1, 2), (2, 2), (3, 1), (4, 0), (5, 0), (6, 0), (7, 0), (8, 0)]), (10, [], [(0, 2), (1, 2), (2, 2), (3, 1), (4, 0), (5, 0), (6, 0), (7, 0), (8, 0)])]
def h20 : Hints := gOf [(1, [19], [(0, 0), (1, 0), (2, 0), (3, 0), (4, 0), (5, 0), (6, 0), (7, 0), (8, 0), (9, 0), (10, 0), (11, 0), (12, 0), (13, 0), (14, 0), (15, 2), (16, 2), (17, 2), (18, 0), (19, 0), (20, 0), (21, 0), (22, 0), (23, 2), (24, 1), (25, 0), (26, 0), (27, 0), (28, 0), (29, 0), (30, 0), (31, 0), (32, 0), (33, 0), (34, 0), (35, 0), (36, 0), (37, 0), (38, 2), (39, 1), (40, 0), (41, 0), (42, 0), (43, 0), (44, 0), (45, 0), (46, 0), (47, 0)])]
def h21 : Hints := gOf [(1, [], [(0, 0), (1, 0), (2, 0), (3, 0), (4, 0), (5, 0), (6, 0), (7, 0), (8, 0), (9, 0), (10, 0), (11, 0), (12, 0), (13, 0), (14, 0), (15, 2), (16, 1), (17, 0), (18, 0), (19, 0), (20, 0), (21, 0), (22, 0), (23, 0), (24, 2), (25, 1), (26, 0), (27, 0), (28, 0), (29, 0), (30, 0), (31, 0), (32, 0), (33, 2), (34, 1), (35, 0), (36, 0), (37, 0), (38, 0), (39, 0), (40, 0), (41, 0), (42, 2), (43, 1), (44, 0), (45, 0), (46, 0), (47, 0), (48, 0), (49, 0)]), (3, [], [(0, 0), (1, 0), (2, 0), (3, 0), (4, 0), (5, 0), (6, 2), (7, 1), (8, 0), (9, 0), (10, 0), (11, 0), (12, 0), (13, 0)])]
def h26 : Hints := gOf [(1, [], [(0, 2), (1, 1), (2, 0), (3, 0), (4, 0), (5, 0), (6, 0), (7, 0), (8, 2), (9, 1), (10, 0), (11, 0), (12, 0), (13, 0), (14, 0), (15, 0), (16, 0), (17, 2), (18, 1), (19, 0), (20, 0), (21, 0), (22, 0), (23, 0), (24, 0), (25, 0)])]
def h27 : Hints := gOf [(1, [], [(0, 2), (1, 2), (2, 2), (3, 1), (4, 2), (5, 2), (6, 2), (7, 1), (8, 2), (9, 2), (10, 2), (11, 1), (12, 2), (13, 2), (14, 2), (15, 1), (16, 2), (17, 2), (18, 0), (19, 0), (20, 0)])]
def h28 : Hints := gOf [(4, [11], [(0, 2), (1, 2), (2, 2), (3, 2), (4, 2), (5, 2), (6, 1), (7, 0), (8, 0), (9, 0), (10, 0), (11, 0), (12, 0)])]
def h29 : Hints := gOf [(1, [], [(0, 2), (1, 2), (2, 2), (3, 1), (4, 2), (5, 2), (6, 2), (7, 1), (8, 2), (9, 2), (10, 2), (11, 1), (12, 2), (13, 2), (14, 2), (15, 1), (16, 2), (17, 2), (18, 2), (19, 1), (20, 0), (21, 0), (22, 0), (23, 0), (24, 0), (25, 0)])]
@[reducible] def st (a b c d e t n : Int) (o : Bool) (k0 k1 k2 k3 k4 k5 k6 : Int) (k7 : Bool) (k8 : ByteArray) : List A :=
  [.int .u8 a, .int .u16 b, .int .u32 c, .int .u8 d, .int .u8 e, .int .u64 t, .int .u32 n, .bool o, .int .u8 k0, .int .u8 k1, .int .u8 k2, .int .u16 k3, .int .u32 k4, .int .u64 k5, .int .u32 k6, .bool k7, .str k8]
@[reducible] def xc (a b c d e : Int) : List A := [.int .u8 a, .int .u16 b, .int .u32 c, .int .u8 d, .int .u8 e]
@[reducible] def fc (g0 g1 g2 g3 g4 g5 g6 : Int) (g7 : Bool) (g8 : ByteArray) : List A := [.int .u8 g0, .int .u8 g1, .int .u8 g2, .int .u16 g3, .int .u32 g4, .int .u64 g5, .int .u32 g6, .bool g7, .str g8]
theorem wrap32 (x : Int) (h0 : 0 ≤ x) (h1 : x < 4294967296) : IntKind.u32.wrap x = x := by
  simp only [IntKind.wrap, IntKind.signed, IntKind.bits]
  simp
  omega
theorem wrap64u (x : Int) (h0 : 0 ≤ x) (h1 : x < 18446744073709551616) : IntKind.u64.wrap x = x := by
  simp only [IntKind.wrap, IntKind.signed, IntKind.bits]
  simp
  omega
section
variable {ro : Addr → A → Prop} (a b c d e t n : Int) (o : Bool) (k0 k1 k2 k3 k4 k5 k6 : Int) (k7 : Bool) (k8 : ByteArray)
theorem fitted (an : Bool) (kd : Int) (bd : ByteArray) (ow : Bool) (f0 f1 f2 f3 f4 f5 f6 : Int) (f7 : Bool) (f8 : ByteArray) {K : V → Hp → Prop}
    (hk : K (.g (fc (bif ow then e else f0) (bif ow then d else f1) (bif ow then a else f2) (bif ow then b else f3) (bif ow then c else f4) f5 f6 (bif ow then an else f7) f8)) []) :
    Go.Eng.Fn Try.prog ro 8 [.g [.int .i64 kd, .str bd, .bool ow, .int .u8 f0, .int .u8 f1, .int .u8 f2, .int .u16 f3, .int .u32 f4, .int .u64 f5, .int .u32 f6, .bool f7, .str f8], .g (xc a b c d e), .a (.bool an)] [] K := by
  cases ow
  all_goals
    simp only [cond_true, cond_false] at hk
    refine Go.Eng.Fn.weak ?_
    refine Go.Eng.Fn.of_code (gOf []) Try.func8 rfl (Nat.le_of_ble_eq_true rfl) ?_
    conv => whnf
    refine ⟨_, _, [], ?_, ?_, ?_, hk⟩
    · rfl
    · exact trivial
    · rfl
variable (g0 g1 g2 g3 g4 g5 g6 : Int) (g7 : Bool) (g8 : ByteArray)
def oursq (a b c d e g0 g1 g2 g3 g4 : Int) : Bool := g0 == e && g1 == d && (g2 == a && (g3 == b && g4 == c))
set_option maxHeartbeats 0 in
theorem ours36 {K : V → Hp → Prop} (ty : Nat) (hk : ∀ q, q = oursq a b c d e g0 g1 g2 g3 g4 → K (.a (.bool q)) [.cells (st a b c d e t n o k0 k1 k2 k3 k4 k5 k6 k7 k8) ty false]) :
    Go.Eng.Fn Try.prog ro 26 [.a (.ptr 0 0), .g (fc g0 g1 g2 g3 g4 g5 g6 g7 g8)] [.cells (st a b c d e t n o k0 k1 k2 k3 k4 k5 k6 k7 k8) ty false] K := by
  refine Go.Eng.Fn.weak ?_
  refine Go.Eng.Fn.of_code h26 Try.func26 rfl (Nat.le_of_ble_eq_true rfl) ?_
  conv => whnf
  repeat' (first
      | ((with_reducible refine regx_of ?_ ?_); (· decide +kernel); conv => whnf)
      | ((with_reducible refine growx_pre ?_ ?_); (· exact ⟨_, rfl⟩); conv => whnf)
      | ((with_reducible refine needm_of ?_ ?_); (· first | assumption | exact decide_eq_true (by omega) | decide +kernel | (refine decide_eq_true ?_; simp (disch := omega) only [i64w]; omega)); conv => whnf)
      | ((with_reducible refine condm_pos ?_ ?_); (· assumption); conv => whnf)
      | ((with_reducible refine condm_neg ?_ ?_); (· assumption); conv => whnf)
      | ((with_reducible refine forceL_fv (by assumption) ?_); conv => whnf)
      | ((with_reducible refine forceL_rfv (by assumption) ?_); conv => whnf)
      | ((with_reducible refine forceNm_of ?_); conv => whnf)
      | ((with_reducible refine needm_of (fv_lenL (by assumption) (by assumption)) ?_); conv => whnf)
      | ((with_reducible refine optm_var (fv_strL (by assumption) (by assumption)) (fun s hs => ?_)); conv => whnf)
      | ((with_reducible refine forceA_of ?_); conv => whnf)
      | ((with_reducible refine condm_of (fun h => ?_) (fun h => ?_)) <;> (conv => whnf))
      | ((with_reducible refine And.intro ?_ ?_) <;> (conv => whnf))
      | (refine ⟨_, EqAgg.of rfl, ?_⟩; conv => whnf)
      | (refine ⟨_, _, [0], ?_, ?_, ?_, hk ?_ ?_⟩; (· rfl); (· exact ⟨rfl, trivial⟩); (· rfl); unfold oursq; grind))
def tk (a b c d e t n : Int) (o : Bool) (g0 g1 g2 g3 g4 g5 g6 : Int) (g7 : Bool) : Nat :=
  if o = false ∧ g7 = false ∧ oursq a b c d e g0 g1 g2 g3 g4 = true ∧ g5 = (if g6 = 1 then 0 else t) then if 0 < n ∧ g6 = n then 1 else if g6 = n + 1 then 2 else 0 else 0
@[reducible] def nofc : List A := fc 0 0 0 0 0 0 0 false ⟨#[]⟩
set_option maxHeartbeats 0 in
theorem take9 (hn : 0 ≤ n ∧ n < 4294967296) (hg : 0 ≤ g6 ∧ g6 < 4294967296) {K : V → Hp → Prop}
    (hk0 : tk a b c d e t n o g0 g1 g2 g3 g4 g5 g6 g7 = 0 → K (.t [.a (.str ⟨#[]⟩), .a (.bool false), .g nofc, .a (.bool false)]) [.cells (st a b c d e t n o k0 k1 k2 k3 k4 k5 k6 k7 k8) 67 false])
    (hk1 : tk a b c d e t n o g0 g1 g2 g3 g4 g5 g6 g7 = 1 → K (.t [.a (.str ⟨#[]⟩), .a (.bool false), .g (fc k0 k1 k2 k3 k4 k5 k6 k7 k8), .a (.bool true)]) [.cells (st a b c d e t n o k0 k1 k2 k3 k4 k5 k6 k7 k8) 67 false])
    (hk2 : tk a b c d e t n o g0 g1 g2 g3 g4 g5 g6 g7 = 2 → K (.t [.a (.str g8), .a (.bool true), .g nofc, .a (.bool false)]) [.cells (st a b c d e t g6 true k0 k1 k2 k3 k4 k5 k6 k7 k8) 67 false]) :
    Go.Eng.Fn Try.prog ro 9 [.a (.ptr 0 0), .g (fc g0 g1 g2 g3 g4 g5 g6 g7 g8)] [.cells (st a b c d e t n o k0 k1 k2 k3 k4 k5 k6 k7 k8) 67 false] K := by
  have hws : 0 < g6 → IntKind.u32.wrap (g6 - 1) = g6 - 1 := fun h => wrap32 _ (by omega) (by omega)
  refine Go.Eng.Fn.weak ?_
  refine Go.Eng.Fn.of_code h9 Try.func9 rfl (Nat.le_of_ble_eq_true rfl) ?_
  conv => whnf
  repeat' (first
      | ((with_reducible refine regx_of ?_ ?_); (· decide +kernel); conv => whnf)
      | ((with_reducible refine growx_pre ?_ ?_); (· exact ⟨_, rfl⟩); conv => whnf)
      | ((with_reducible refine needm_of ?_ ?_); (· first | assumption | exact decide_eq_true (by omega) | decide +kernel | (refine decide_eq_true ?_; simp (disch := omega) only [i64w]; omega)); conv => whnf)
      | ((with_reducible refine condm_pos ?_ ?_); (· assumption); conv => whnf)
      | ((with_reducible refine condm_neg ?_ ?_); (· assumption); conv => whnf)
      | ((with_reducible refine forceL_fv (by assumption) ?_); conv => whnf)
      | ((with_reducible refine forceL_rfv (by assumption) ?_); conv => whnf)
      | ((with_reducible refine forceNm_of ?_); conv => whnf)
      | ((with_reducible refine needm_of (fv_lenL (by assumption) (by assumption)) ?_); conv => whnf)
      | ((with_reducible refine optm_var (fv_strL (by assumption) (by assumption)) (fun s hs => ?_)); conv => whnf)
      | ((with_reducible refine forceA_of ?_); conv => whnf)
      | (refine Fn.frame [0] ?_ ?_ ?_ (ours36 a b c d e t n o k0 k1 k2 k3 k4 k5 k6 k7 k8 g0 g1 g2 g3 g4 g5 g6 g7 g8 67 (fun q hq => ?_)); (· rfl); (· exact ⟨rfl, trivial⟩); (· rfl); conv => whnf)
      | ((with_reducible refine condm_of (fun h => ?_) (fun h => ?_)) <;> (conv => whnf))
      | ((with_reducible refine And.intro ?_ ?_) <;> (conv => whnf))
      | (refine ⟨_, EqAgg.of rfl, ?_⟩; conv => whnf)
      | (refine ⟨_, _, [0], ?_, ?_, ?_, hk0 ?_⟩; (· rfl); (· exact ⟨rfl, trivial⟩); (· rfl); clear hk0 hk1 hk2; unfold tk; grind)
      | (refine ⟨_, _, [0], ?_, ?_, ?_, hk1 ?_⟩; (· rfl); (· exact ⟨rfl, trivial⟩); (· rfl); clear hk0 hk1 hk2; unfold tk; grind)
      | (refine ⟨_, _, [0], ?_, ?_, ?_, hk2 ?_⟩; (· rfl); (· exact ⟨rfl, trivial⟩); (· rfl); clear hk0 hk1 hk2; unfold tk; grind))
end
end Go.Proofs.Ytefimkcfaoabpaa.TA
