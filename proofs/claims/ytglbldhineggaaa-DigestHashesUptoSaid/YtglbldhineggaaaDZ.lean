import Derived.Test.YtglbldhineggaaaDN
namespace Go.Proofs.Ytglbldhineggaaa.DG
open Go.Eng
set_option maxRecDepth 100000
def h7t : Hints := gOf [(20, [], [(0, 2), (1, 2), (2, 1), (3, 1), (4, 2), (5, 0), (6, 0), (7, 0), (8, 0), (9, 0), (10, 0), (11, 0)]), (22, [], [(0, 2), (1, 1), (2, 1), (3, 2), (4, 0), (5, 0), (6, 0), (7, 0), (8, 0), (9, 0)]), (23, [], [(0, 2), (1, 2), (2, 1), (3, 1), (4, 2), (5, 0), (6, 0), (7, 0), (8, 0), (9, 0), (10, 0), (11, 0)]), (25, [3, 8], [(0, 2), (1, 1), (2, 1), (4, 2), (5, 1), (6, 1), (7, 1), (3, 0), (8, 0), (9, 0)]), (36, [3], [(0, 2), (1, 1), (2, 1), (4, 2), (5, 1), (6, 1), (7, 1), (8, 1), (3, 0), (9, 0)]), (41, [3, 8, 14, 19], [(0, 2), (1, 1), (2, 1), (4, 2), (5, 1), (6, 1), (7, 1), (3, 0), (8, 0), (9, 0), (10, 0), (11, 2), (12, 1), (13, 1), (15, 2), (16, 1), (17, 1), (18, 1), (14, 0), (19, 0), (20, 0), (21, 0)])]
/-- The steps of a script: each with its bytes. -/
def Steps (ro : Addr → A → Prop) (p : Addr) (len : Nat) : Prop := ∀ i, i < len → ∃ (k a t : Int) (x : A) (L : List UInt8), ro ((p.add (i * 4)).add 0) (.int .i64 k) ∧ ro ((p.add (i * 4)).add 1) (.int .i64 a) ∧
  ro ((p.add (i * 4)).add 2) (.int .i64 t) ∧ ro ((p.add (i * 4)).add 3) x ∧ Src ro x L ∧ L.length ≤ 1048576
structure Lot (i : Nat) (T : List UInt8) (n c : Nat) (h b : List A) : Prop where
  hs : HS T (T.length % 18446744073709551616) h
  hn : n = T.length
  le : T.length ≤ i * 1048576
  row : ∃ y, b = u8s (T ++ y) ∧ c = n + y.length
theorem Lot.mono {i j : Nat} {T : List UInt8} {n c : Nat} {h b : List A} (o : Lot i T n c h b) (hij : i ≤ j) : Lot j T n c h b :=
  ⟨o.hs, o.hn, Nat.le_trans o.le (Nat.mul_le_mul_right _ hij), o.row⟩
@[reducible] def F7 (l : A) (i : Nat) : Frm := [(0, .a l), (3, .a (.ptr 0 0)), (4, .a (.ptr 1 0)), (6, .a (.int .i64 i))]
@[reducible] def H7 (n0 c0 n1 c1 n2 c2 : Nat) (h0 h1 h2 b0 b1 b2 : List A) : Hp := [.cells [.ptr 2 0, .ptr 3 0, .ptr 4 0] 46 false, .cells [.slc 5 0 n0 c0, .slc 6 0 n1 c1, .slc 7 0 n2 c2] 47 false, .cells h0 68 false, .cells h1 68 false, .cells h2 68 false, .cells b0 5 false, .cells b1 5 false, .cells b2 5 false]
def Inv7 (l : A) (len m : Nat) (F : Frm) (H : Hp) : Prop :=
  ∃ (i : Nat) (T0 T1 T2 : List UInt8) (n0 c0 n1 c1 n2 c2 : Nat) (h0 h1 h2 b0 b1 b2 : List A), i ≤ len ∧ m = len - i ∧ Lot i T0 n0 c0 h0 b0 ∧ Lot i T1 n1 c1 h1 b1 ∧ Lot i T2 n2 c2 h2 b2 ∧ F = F7 l i ∧ H = H7 n0 c0 n1 c1 n2 c2 h0 h1 h2 b0 b1 b2
theorem wrapi {i : Nat} (h : i < 1048576) : IntKind.i64.wrap (↑i + 1) = ((i + 1 : Nat) : Int) := by rw [i64w (by omega) (by omega)]; rfl
theorem app_len {cs : List A} {T y : List UInt8} (h : cs = u8s (T ++ y)) : cs.length = T.length + y.length := by rw [u8s_len h, List.length_append]
theorem hs_len (T L : List UInt8) : (T.length % 18446744073709551616 + L.length) % 18446744073709551616 = (T ++ L).length % 18446744073709551616 := by
  rw [List.length_append]; omega
theorem app_rin {cs : List A} {T y L : List UInt8} {n S : Nat} (hcs : cs = u8s (T ++ y)) (hn : n = T.length) (hS : S = 1) (h : L.length ≤ y.length) : storeL cs (0 + n * S) (u8s L) = u8s ((T ++ L) ++ y.drop L.length) := by
  subst hcs hn hS
  rw [Nat.zero_add, Nat.mul_one, storeL_u8 _ _ _ (by rw [List.length_append]; omega), List.take_left' rfl]
  congr 2
  rw [List.drop_append, List.drop_of_length_le (by omega), List.nil_append]
  congr 1
  omega
theorem app_rnew {cs : List A} {T y L : List UInt8} {n S c m : Nat} (hcs : cs = u8s (T ++ y)) (hn : n = T.length) (hS : S = 1) : List.drop 0 (List.take (0 + n * S) cs) ++ u8s L ++ repl [.int .u8 0] ((c - m) * S) = u8s ((T ++ L) ++ List.replicate (c - m) 0) := by
  subst hcs hn hS
  rw [Nat.zero_add, Nat.mul_one, List.drop_zero, u8s_take, List.take_left' rfl, Nat.mul_one, repl_u8, ← u8s_append, ← u8s_append]
theorem row_is {cs : List A} {T y : List UInt8} {n S : Nat} (hcs : cs = u8s (T ++ y)) (hn : n = T.length) (hS : S = 1) : List.drop 0 (List.take (0 + n * S) cs) = u8s T := by
  subst hcs hn hS
  rw [Nat.zero_add, Nat.mul_one, List.drop_zero, u8s_take, List.take_left' rfl]
theorem three_of (a : Int) : three a = 0 ∨ three a = 1 ∨ three a = 2 := by unfold three; exact three_lt a
end Go.Proofs.Ytglbldhineggaaa.DG
