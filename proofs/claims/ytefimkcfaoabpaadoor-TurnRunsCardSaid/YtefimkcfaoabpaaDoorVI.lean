import Derived.Test.YtefimkcfaoabpaaDoorVH
namespace Go.Proofs.YtefimkcfaoabpaaDoor.TA
open Go.Eng
set_option maxRecDepth 100000
def KEv : List Sc := [.int .i64, .int .i64]
theorem mod1 (x : Int) (n : Int) (hn : 0 < n) (hb : n ≤ 16) : 1 ≤ IntKind.i64.wrap (1 + (IntKind.i64.wrap (x.tmod n + n)).tmod n) ∧ IntKind.i64.wrap (1 + (IntKind.i64.wrap (x.tmod n + n)).tmod n) ≤ n := by
  have hab : (x.tmod n).natAbs < n.natAbs := by rw [Int.natAbs_tmod]; exact Nat.mod_lt _ (by omega)
  have e : IntKind.i64.wrap (x.tmod n + n) = x.tmod n + n := i64w (by omega) (by omega)
  rw [e]
  have h3 : 0 ≤ (x.tmod n + n).tmod n := Int.tmod_nonneg _ (by omega)
  have h4 : (x.tmod n + n).tmod n < n := Int.tmod_lt_of_pos _ hn
  rw [i64w (by omega) (by omega)]
  omega
@[reducible] def F0 (l : A) (r : Int) (i : Int) : Frm := [(1, .a (.int .i64 r)), (3, .a l), (13, .a (.ptr 0 0)), (14, .a (.int .i64 i))]
def Inv (T w r : Int) (l : A) (len : Nat) (m : Nat) (F : Frm) (H : Hp) : Prop :=
  ∃ (i : Nat) (asked done taken : Nat) (number : Int) (over : Bool) (last : ByteArray) (t : Int) (bd : ByteArray) (at_ go se : Int) (k0 k1 k2 k3 k4 k5 k6 : Int) (k7 : Bool) (k8 : ByteArray) (L : List Fm) (n cap : Nat) (cs : List A) (mk : Bool), F = F0 l r i ∧ H = HL T w r asked done taken number over last t bd at_ go se k0 k1 k2 k3 k4 k5 k6 k7 k8 3 n cap [.cells cs 44 mk] ∧ Good (rp ita) r T asked done taken number over last bd at_ k0 k1 k2 k3 k4 k5 k6 k7 k8 L ∧ In L cs cap ∧ n = L.length ∧ i ≤ len ∧ m = len - i ∧ asked ≤ i ∧ n ≤ i ∧ i ≤ 2000
section
variable {ro : Addr → A → Prop}
set_option maxHeartbeats 4000000 in
theorem runs3 (hI : Rep ro ita) (W0 R0 T : Int) (l : A) (len : Nat) (hlen : len ≤ maxLen) (hl : l = .nils ∧ len = 0 ∨ ∃ p cap, l = .rslc p len cap ∧ ∀ i, i < len → ∃ kd x : Int, ∀ j y, [A.int .i64 kd, .int .i64 x][j]? = some y → ro ((p.add (i * 2)).add j) y) :
    Go.Eng.Fn Tryd.prog ro 3 [.a (.int .i64 W0), .a (.int .i64 R0), .a (.int .u64 T), .a l] [] (fun v _ => v = .a (.bool true)) := by
  have hl0 : lenA l = some len := by
    rcases hl with ⟨rfl, rfl⟩ | ⟨p, cap, rfl, _⟩ <;> rfl
  obtain ⟨w, hw⟩ : ∃ w, w = IntKind.i64.wrap (1 + (IntKind.i64.wrap (W0.tmod 4 + 4)).tmod 4) := ⟨_, rfl⟩
  obtain ⟨r, hr⟩ : ∃ r, r = IntKind.i64.wrap (1 + (IntKind.i64.wrap (R0.tmod 4 + 4)).tmod 4) := ⟨_, rfl⟩
  have hw1 := mod1 W0 4 (by decide) (by decide)
  have hr1 := mod1 R0 4 (by decide) (by decide)
  rw [← hw] at hw1
  rw [← hr] at hr1
  refine Fn.of 0 TT.h3 rfl Tryd.func3 rfl (Nat.le_of_ble_eq_true rfl) ?_
  conv => whnf
  repeat' ((first | rw [← hw] | rw [← hr] | ((with_reducible refine y'r ?_ ?_); (· decide +kernel)) | ((with_reducible refine y'g ?_ ?_); (· exact ⟨_, rfl⟩)) | (with_reducible first | refine y'b ‹_› ?_ | refine y'n ‹_› ?_ | refine y'1 ‹_› ?_ | refine y'2 ‹_› ?_ | refine y'3 ?_ | refine y'4 ?_) | ((with_reducible refine y'n ?_ ?_); (· first | with_reducible assumption | exact decide_eq_true (by omega) | exact mkOK_of (by decide) | decide +kernel | (refine decide_eq_true ?_; simp (disch := omega) only [i64w]; omega))) | (with_reducible first | refine y'n (y'7 ‹_› ‹_›) ?_ | refine y'v (y'8 ‹_› ‹_›) (fun s hs => ?_) | refine y'5 ‹_› ?_ | refine y'6 ‹_› ?_) | ((with_reducible refine y'p ?_ ?_); (· rfl)) | ((with_reducible refine y'q ?_ ?_); (· rfl)) | (refine Fn.frame [] (by rfl) (by exact trivial) (by rfl) (awake25 ?_)) | (refine Fn.frame [] (by rfl) (by exact trivial) (by rfl) (new14 _ _ _ _ _ _ _ (fun h => absurd ⟨hw1.1, by omega, hr1.1, by omega⟩ h) (fun _ => ?_))) | (refine Fn.frame [] (by rfl) (by exact trivial) (by rfl) (new7 _ _ _ _ _ _ ?_)) | fail) <;> (conv => whnf))
  rcases hl with ⟨rfl, rfl⟩ | ⟨p, cap0, rfl, hG⟩
  · refine loopx_iter 1 ?_
    conv => whnf
    repeat' ((first | ((with_reducible refine y'r ?_ ?_); (· decide +kernel)) | ((with_reducible refine y'g ?_ ?_); (· exact ⟨_, rfl⟩)) | (with_reducible first | refine y'b ‹_› ?_ | refine y'n ‹_› ?_ | refine y'1 ‹_› ?_ | refine y'2 ‹_› ?_ | refine y'3 ?_ | refine y'4 ?_) | ((with_reducible refine y'n ?_ ?_); (· first | with_reducible assumption | exact decide_eq_true (by omega) | exact mkOK_of (by decide) | decide +kernel | (refine decide_eq_true ?_; simp (disch := omega) only [i64w]; omega))) | (with_reducible first | refine y'n (y'7 ‹_› ‹_›) ?_ | refine y'v (y'8 ‹_› ‹_›) (fun s hs => ?_) | refine y'5 ‹_› ?_ | refine y'6 ‹_› ?_) | ((with_reducible refine y'p ?_ ?_); (· rfl)) | ((with_reducible refine y'q ?_ ?_); (· rfl)) | fail) <;> (conv => whnf))
  refine loopx_of (Inv T w r (.rslc p len cap0) len) len ?_ ?_
  · refine Into.ghost 4 [(1, .a (.int .i64 r)), (3, .a (.rslc p len cap0)), (13, .a (.ptr 3 0)), (14, .a (.int .i64 0))] [.cells [.int .u8 3, .int .u16 9, .int .u32 1] 28 false, .cells (sa 3 9 1 3 5 0 w r 0 ⟨#[]⟩ 0 0 0 false) 55 false, .cells (st 3 9 1 5 3 T 0 false 0 0 0 0 0 0 0 false ⟨#[]⟩) 57 false, .cells [.ptr 1 0, .ptr 2 0, .slc 4 0 0 0, .int .i64 0, .int .i64 0, .int .i64 0, .int .i64 0, .bool false, .str ⟨#[]⟩] 38 false, .cells [] 44 false] rfl ⟨rfl, rfl, rfl, rfl, trivial⟩ ⟨rfl, rfl, rfl, rfl, rfl, trivial⟩ (by simp [Ob.okb, frmOk, V.okb, A.okb] <;> decide) ?_
    exact Into.weak [3, 1, 2, 4] (F0 (.rslc p len cap0) r ((0 : Nat) : Int)) (HL T w r ((0 : Nat) : Int) ((0 : Nat) : Int) ((0 : Nat) : Int) 0 false ⟨#[]⟩ 0 ⟨#[]⟩ 0 0 0 0 0 0 0 0 0 0 false ⟨#[]⟩ 3 0 0 [.cells [] 44 false])
      ⟨0, 0, 0, 0, 0, false, ⟨#[]⟩, 0, ⟨#[]⟩, 0, 0, 0, 0, 0, 0, 0, 0, 0, 0, false, ⟨#[]⟩, [], 0, 0, [], false, rfl, rfl, ⟨Nat.le_refl _, Nat.le_refl _, Nat.zero_le _, fun _ => rfl, fun _ h => absurd h (Nat.lt_irrefl _), fun _ _ => rfl, by omega, fun h => absurd h (Nat.lt_irrefl _), fun y hy => nomatch hy⟩, In.nil, rfl, Nat.zero_le _, rfl, Nat.le_refl _, Nat.le_refl _, by omega⟩
      ⟨rfl, rfl, rfl, rfl, trivial⟩ ⟨rfl, rfl, rfl, rfl, trivial⟩ (by simp [nodupb, baseb, Ob.okb, frmOk, V.okb, A.okb] <;> decide)
  · rintro m F H ⟨i, asked, done, taken, number, over, last, t, bd, at_, go, se, k0, k1, k2, k3, k4, k5, k6, k7, k8, L, n, cap, cs, mk, rfl, rfl, G, hin, hn, hi, rfl, hai, hni, hi2⟩
    have hp := hin.pl
    have hmx : maxLen ≤ 9223372036854775807 := by decide
    by_cases hil : i < len
    · have d1 : decide ((i : Int) < (len : Int)) = true := decide_eq_true (by omega)
      by_cases hi3 : i < 2000
      · have d2 : decide ((i : Int) < 2000) = true := decide_eq_true (by omega)
        have d3 : decide (0 ≤ (i : Int) ∧ (i : Int) < (len : Int)) = true := decide_eq_true (by omega)
        have hwi : IntKind.i64.wrap ((i : Int) + 1) = ((i + 1 : Nat) : Int) := by rw [i64w (by omega) (by omega)]; rfl
        obtain ⟨kd, x, ld⟩ := hG i hil
        conv => whnf
        repeat' ((first | ((with_reducible refine y'r ?_ ?_); (· decide +kernel)) | ((with_reducible refine y'g ?_ ?_); (· exact ⟨_, rfl⟩)) | (with_reducible first | refine y'b ‹_› ?_ | refine y'n ‹_› ?_ | refine y'1 ‹_› ?_ | refine y'2 ‹_› ?_ | refine y'3 ?_ | refine y'4 ?_) | ((with_reducible refine y'n ?_ ?_); (· first | with_reducible assumption | exact decide_eq_true (by omega) | exact mkOK_of (by decide) | decide +kernel | (refine decide_eq_true ?_; simp (disch := omega) only [i64w]; omega))) | (with_reducible first | refine y'n (y'7 ‹_› ‹_›) ?_ | refine y'v (y'8 ‹_› ‹_›) (fun s hs => ?_) | refine y'5 ‹_› ?_ | refine y'6 ‹_› ?_) | ((with_reducible refine y'p ?_ ?_); (· rfl)) | ((with_reducible refine y'q ?_ ?_); (· rfl)) | fail) <;> (conv => whnf))
        refine ⟨[A.int .i64 kd, .int .i64 x], rfl, ld, ?_⟩
        conv => whnf
        repeat' ((first | ((with_reducible refine y'r ?_ ?_); (· decide +kernel)) | ((with_reducible refine y'g ?_ ?_); (· exact ⟨_, rfl⟩)) | (with_reducible first | refine y'b ‹_› ?_ | refine y'n ‹_› ?_ | refine y'1 ‹_› ?_ | refine y'2 ‹_› ?_ | refine y'3 ?_ | refine y'4 ?_) | ((with_reducible refine y'n ?_ ?_); (· first | with_reducible assumption | exact decide_eq_true (by omega) | exact mkOK_of (by decide) | decide +kernel | (refine decide_eq_true ?_; simp (disch := omega) only [i64w]; omega))) | (with_reducible first | refine y'n (y'7 ‹_› ‹_›) ?_ | refine y'v (y'8 ‹_› ‹_›) (fun s hs => ?_) | refine y'5 ‹_› ?_ | refine y'6 ‹_› ?_) | ((with_reducible refine y'p ?_ ?_); (· rfl)) | ((with_reducible refine y'q ?_ ?_); (· rfl)) | fail) <;> (conv => whnf))
        refine Fn.frame [0, 1, 2, 3] (by rfl) (by exact ⟨rfl, rfl, rfl, ren_pl hp _ _ _, trivial⟩) (by simp [nodupb, V.okb, A.okb, Ob.okb, hp.2] <;> decide) (event1 hI T w r asked done taken number over last t bd at_ go se k0 k1 k2 k3 k4 k5 k6 k7 k8 hr1.1 (by omega) L G n cap cs mk hin hn (by omega) (by omega) kd x i i hai hni (fun as_ dn tk nu ov la t2 b2 a2 g2 s2 j0 j1 j2 j3 j4 j5 j6 j7 j8 L2 cp2 cs2 mk2 G2 hin2 hl2 ha2 => ?_) (fun as_ dn tk nu ov la t2 b2 a2 g2 s2 j0 j1 j2 j3 j4 j5 j6 j7 j8 L2 cp2 cs2 mk2 G2 hin2 hl2 ha2 => ?_))
        · have c1 : decide ((dn : Int) < (tk : Int)) = false := decide_eq_false (by have := G2.a1; omega)
          have c2 : decide ((dn : Int) > (as_ : Int)) = false := decide_eq_false (by have := G2.a2; omega)
          have c3 : decide ((as_ : Int) > IntKind.i64.wrap ((tk : Int) + 1)) = false := decide_eq_false (by have := G2.a3; have := G2.a1; have := G2.a2; rw [i64w (by omega) (by omega)]; omega)
          have hp2 := hin2.pl
          have hl3 : L2.length ≤ i + 1 := hl2
          clear G hin
          conv => whnf
          repeat' ((first | ((with_reducible refine y'r ?_ ?_); (· decide +kernel)) | ((with_reducible refine y'g ?_ ?_); (· exact ⟨_, rfl⟩)) | (with_reducible first | refine y'b ‹_› ?_ | refine y'n ‹_› ?_ | refine y'1 ‹_› ?_ | refine y'2 ‹_› ?_ | refine y'3 ?_ | refine y'4 ?_) | ((with_reducible refine y'n ?_ ?_); (· first | with_reducible assumption | exact decide_eq_true (by omega) | exact mkOK_of (by decide) | decide +kernel | (refine decide_eq_true ?_; simp (disch := omega) only [i64w]; omega))) | (with_reducible first | refine y'n (y'7 ‹_› ‹_›) ?_ | refine y'v (y'8 ‹_› ‹_›) (fun s hs => ?_) | refine y'5 ‹_› ?_ | refine y'6 ‹_› ?_) | ((with_reducible refine y'p ?_ ?_); (· rfl)) | ((with_reducible refine y'q ?_ ?_); (· rfl)) | fail) <;> (conv => whnf))
          exact ⟨len - (i + 1), by omega, Into.weak [0, 1, 2, 3] (F0 (.rslc p len cap0) r ((i + 1 : Nat) : Int)) (HL T w r as_ dn tk nu ov la t2 b2 a2 g2 s2 j0 j1 j2 j3 j4 j5 j6 j7 j8 3 L2.length cp2 [.cells cs2 44 mk2]) ⟨i + 1, as_, dn, tk, nu, ov, la, t2, b2, a2, g2, s2, j0, j1, j2, j3, j4, j5, j6, j7, j8, L2, L2.length, cp2, cs2, mk2, rfl, rfl, G2, hin2, rfl, by omega, rfl, ha2, hl3, by omega⟩ ⟨rfl, rfl, rfl, congrArg (fun z => some (V.a (.int .i64 z))) hwi, trivial⟩ ⟨rfl, rfl, rfl, ren_pl hp2 _ _ _, trivial⟩ (by simp [nodupb, baseb, Ob.okb, frmOk, V.okb, A.okb, hp.2, hp2.2] <;> decide)⟩
        · have c1 : decide ((dn : Int) < (tk : Int)) = false := decide_eq_false (by have := G2.a1; omega)
          have c2 : decide ((dn : Int) > (as_ : Int)) = false := decide_eq_false (by have := G2.a2; omega)
          have c3 : decide ((as_ : Int) > IntKind.i64.wrap ((tk : Int) + 1)) = false := decide_eq_false (by have := G2.a3; have := G2.a1; have := G2.a2; rw [i64w (by omega) (by omega)]; omega)
          have hp2 := hin2.pl
          have hl3 : L2.length ≤ i + 1 := hl2
          clear G hin
          conv => whnf
          repeat' ((first | ((with_reducible refine y'r ?_ ?_); (· decide +kernel)) | ((with_reducible refine y'g ?_ ?_); (· exact ⟨_, rfl⟩)) | (with_reducible first | refine y'b ‹_› ?_ | refine y'n ‹_› ?_ | refine y'1 ‹_› ?_ | refine y'2 ‹_› ?_ | refine y'3 ?_ | refine y'4 ?_) | ((with_reducible refine y'n ?_ ?_); (· first | with_reducible assumption | exact decide_eq_true (by omega) | exact mkOK_of (by decide) | decide +kernel | (refine decide_eq_true ?_; simp (disch := omega) only [i64w]; omega))) | (with_reducible first | refine y'n (y'7 ‹_› ‹_›) ?_ | refine y'v (y'8 ‹_› ‹_›) (fun s hs => ?_) | refine y'5 ‹_› ?_ | refine y'6 ‹_› ?_) | ((with_reducible refine y'p ?_ ?_); (· rfl)) | ((with_reducible refine y'q ?_ ?_); (· rfl)) | fail) <;> (conv => whnf))
          exact ⟨len - (i + 1), by omega, Into.weak [0, 1, 2, 4] (F0 (.rslc p len cap0) r ((i + 1 : Nat) : Int)) (HL T w r as_ dn tk nu ov la t2 b2 a2 g2 s2 j0 j1 j2 j3 j4 j5 j6 j7 j8 3 L2.length cp2 [.cells cs2 44 mk2]) ⟨i + 1, as_, dn, tk, nu, ov, la, t2, b2, a2, g2, s2, j0, j1, j2, j3, j4, j5, j6, j7, j8, L2, L2.length, cp2, cs2, mk2, rfl, rfl, G2, hin2, rfl, by omega, rfl, ha2, hl3, by omega⟩ ⟨rfl, rfl, rfl, congrArg (fun z => some (V.a (.int .i64 z))) hwi, trivial⟩ ⟨rfl, rfl, rfl, ren_pl hp2 _ _ _, trivial⟩ (by simp [nodupb, baseb, Ob.okb, frmOk, V.okb, A.okb, hp.2, hp2.2] <;> decide)⟩
      · have d2 : decide ((i : Int) < 2000) = false := decide_eq_false (by omega)
        conv => whnf
        repeat' ((first | ((with_reducible refine y'r ?_ ?_); (· decide +kernel)) | ((with_reducible refine y'g ?_ ?_); (· exact ⟨_, rfl⟩)) | (with_reducible first | refine y'b ‹_› ?_ | refine y'n ‹_› ?_ | refine y'1 ‹_› ?_ | refine y'2 ‹_› ?_ | refine y'3 ?_ | refine y'4 ?_) | ((with_reducible refine y'n ?_ ?_); (· first | with_reducible assumption | exact decide_eq_true (by omega) | exact mkOK_of (by decide) | decide +kernel | (refine decide_eq_true ?_; simp (disch := omega) only [i64w]; omega))) | (with_reducible first | refine y'n (y'7 ‹_› ‹_›) ?_ | refine y'v (y'8 ‹_› ‹_›) (fun s hs => ?_) | refine y'5 ‹_› ?_ | refine y'6 ‹_› ?_) | ((with_reducible refine y'p ?_ ?_); (· rfl)) | ((with_reducible refine y'q ?_ ?_); (· rfl)) | fail) <;> (conv => whnf))
    · have d1 : decide ((i : Int) < (len : Int)) = false := decide_eq_false (by omega)
      conv => whnf
      repeat' ((first | ((with_reducible refine y'r ?_ ?_); (· decide +kernel)) | ((with_reducible refine y'g ?_ ?_); (· exact ⟨_, rfl⟩)) | (with_reducible first | refine y'b ‹_› ?_ | refine y'n ‹_› ?_ | refine y'1 ‹_› ?_ | refine y'2 ‹_› ?_ | refine y'3 ?_ | refine y'4 ?_) | ((with_reducible refine y'n ?_ ?_); (· first | with_reducible assumption | exact decide_eq_true (by omega) | exact mkOK_of (by decide) | decide +kernel | (refine decide_eq_true ?_; simp (disch := omega) only [i64w]; omega))) | (with_reducible first | refine y'n (y'7 ‹_› ‹_›) ?_ | refine y'v (y'8 ‹_› ‹_›) (fun s hs => ?_) | refine y'5 ‹_› ?_ | refine y'6 ‹_› ?_) | ((with_reducible refine y'p ?_ ?_); (· rfl)) | ((with_reducible refine y'q ?_ ?_); (· rfl)) | fail) <;> (conv => whnf))
end
end Go.Proofs.YtefimkcfaoabpaaDoor.TA
