import Derived.Test.YtefimkcfaoabpaaDoorVA
namespace Go.Proofs.YtefimkcfaoabpaaDoor.TA
open Go.Eng
set_option maxRecDepth 100000
theorem s44 : Tryd.prog.types[44].size = 9 := rfl
theorem b44 : Tryd.prog.types[44].bytes = 48 := rfl
theorem row1 (x : Fm) : List.drop 0 (List.take (0 + 1 * Tryd.prog.types[44].size) x.row) = fms [x] := (whole_of rfl).trans (fms_one rfl)
def harr : Hints := gOf [(2, [], [(0, 2), (1, 2), (2, 2), (3, 1), (4, 0), (5, 0), (6, 0), (7, 2), (8, 2), (9, 0), (10, 0)]), (6, [], [(0, 2), (1, 2), (2, 2), (3, 1), (4, 0), (5, 0), (6, 0), (7, 0), (8, 0), (9, 0), (10, 2), (11, 0), (12, 0), (13, 0), (14, 0), (15, 0), (16, 0), (17, 0), (18, 0)]), (7, [], []), (11, [], [(0, 2), (1, 2), (2, 2), (3, 2), (4, 1), (5, 0), (6, 0), (7, 0), (8, 0), (9, 0), (10, 0)]), (12, [9], [(0, 0), (1, 0), (2, 0), (3, 2), (4, 1), (5, 0), (6, 0), (7, 0), (8, 0), (9, 0), (10, 0), (11, 0), (12, 0), (13, 2), (14, 1), (15, 0), (16, 0), (17, 0), (18, 0), (19, 0), (20, 0), (21, 0), (22, 0)]), (16, [8], []), (17, [], [(0, 2), (1, 2), (2, 2), (3, 2), (4, 1), (5, 0), (6, 0), (7, 0), (8, 0), (9, 0), (10, 0)]), (18, [], [(0, 0), (1, 0), (2, 0), (3, 2), (4, 2), (5, 2), (6, 1), (7, 0), (8, 0), (9, 0), (10, 0), (11, 0), (12, 0), (13, 0), (14, 2), (15, 0), (16, 0), (17, 0), (18, 0), (19, 0), (20, 0), (21, 0)])]
/-- A frame that flies is as it should be. -/
structure Okf (asked done : Nat) (last : ByteArray) (rp : Nat → ByteArray) (x : Fm) : Prop where
  q0 : ∃ n : Nat, x.q = n ∧ 1 ≤ n ∧ n ≤ asked
  qs : x.an = false → x.q = asked → x.s = last
  an : x.an = true → ∃ n : Nat, x.q = n ∧ n ≤ done ∧ x.s = rp n
/-- What the line keeps. -/
structure Good (rp : Nat → ByteArray) (tries : Int) (T : Int) (asked done taken : Nat) (number : Int) (over : Bool) (last bd : ByteArray) (at_ : Int) (k0 k1 k2 k3 k4 k5 k6 : Int) (k7 : Bool) (k8 : ByteArray) (L : List Fm) : Prop where
  a1 : taken ≤ done
  a2 : done ≤ asked
  a3 : asked ≤ taken + 1
  ov : over = true → at_ = 0
  wt : over = false → taken < asked → at_ = number ∧ 1 ≤ number ∧ bd = last
  nw : over = false → taken = asked → at_ = 0
  nt : number ≤ tries
  kp : 0 < done → k0 = 5 ∧ k1 = 3 ∧ k2 = 3 ∧ k3 = 9 ∧ k4 = 1 ∧ k5 = T ∧ k6 = done ∧ k7 = true ∧ k8 = rp done
  fl : ∀ x ∈ L, Okf asked done last rp x
/-- What Itoa answers. -/
structure Rep (ro : Addr → A → Prop) (ita : Nat → ByteArray) : Prop where
  run : ∀ (n : Nat), n ≤ 9000 → ∀ {K : V → Hp → Prop}, K (.a (.str (ita n))) [] → Go.Eng.Fn Tryd.prog ro 13 [.a (.int .i64 (n : Int))] [] K
  few : ∀ n, (ita n).size ≤ 100
@[irreducible] def rp (ita : Nat → ByteArray) (n : Nat) : ByteArray := ⟨#[114, 101, 112, 108, 121, 32]⟩ ++ ita n
section
variable {ro : Addr → A → Prop} {ita : Nat → ByteArray}
theorem replyO (a b c d e t n : Int) (k0 k1 k2 k3 k4 k5 k6 : Int) (k7 : Bool) (k8 : ByteArray) (body : ByteArray) {K : V → Hp → Prop}
    (hk : K (.t [.g (fc d e a b c t n true body), .a (.int .i64 0)]) [.cells (st a b c d e t n false d e a b c t n true body) 57 false]) :
    Go.Eng.Fn Tryd.prog ro 10 [.a (.ptr 0 0), .a (.str body)] [.cells (st a b c d e t n true k0 k1 k2 k3 k4 k5 k6 k7 k8) 57 false] K :=
  reply11 a b c d e t n true k0 k1 k2 k3 k4 k5 k6 k7 k8 body (fun h => absurd h (by decide)) (fun _ => hk)
theorem reply1 (hI : Rep ro ita) (n : Nat) (hn : n ≤ 9000) {K : V → Hp → Prop} (hK : K (.a (.str (rp ita n))) []) :
    Go.Eng.Fn Tryd.prog ro 20 [.a (.int .i64 (n : Int))] [] K := by
  have k := @Rep.run ro ita hI n hn
  have hs := hI.few n
  unfold rp at hK
  generalize ita n = s at *
  refine Fn.weak ?_
  refine Fn.of_code (gOf []) Tryd.func20 rfl (Nat.le_of_ble_eq_true rfl) ?_
  conv => whnf
  repeat' ((first | ((with_reducible refine y'r ?_ ?_); (· decide +kernel)) | ((with_reducible refine y'g ?_ ?_); (· exact ⟨_, rfl⟩)) | (with_reducible first | refine y'b ‹_› ?_ | refine y'n ‹_› ?_ | refine y'1 ‹_› ?_ | refine y'2 ‹_› ?_ | refine y'3 ?_ | refine y'4 ?_) | ((with_reducible refine y'n ?_ ?_); (· first | with_reducible assumption | exact decide_eq_true (by omega) | exact mkOK_of (by decide) | decide +kernel | (refine decide_eq_true ?_; simp (disch := omega) only [i64w]; omega))) | (with_reducible first | refine y'n (y'7 ‹_› ‹_›) ?_ | refine y'v (y'8 ‹_› ‹_›) (fun s hs => ?_) | refine y'5 ‹_› ?_ | refine y'6 ‹_› ?_) | ((with_reducible refine y'p ?_ ?_); (· rfl)) | ((with_reducible refine y'q ?_ ?_); (· rfl)) | fail) <;> (conv => whnf))
  refine Fn.frame [] (by rfl) (by exact trivial) (by rfl) (k ?_)
  conv => whnf
  repeat' ((first | ((with_reducible refine y'r ?_ ?_); (· decide +kernel)) | ((with_reducible refine y'g ?_ ?_); (· exact ⟨_, rfl⟩)) | (with_reducible first | refine y'b ‹_› ?_ | refine y'n ‹_› ?_ | refine y'1 ‹_› ?_ | refine y'2 ‹_› ?_ | refine y'3 ?_ | refine y'4 ?_) | ((with_reducible refine y'n ?_ ?_); (· first | with_reducible assumption | exact decide_eq_true (by omega) | exact mkOK_of (by decide) | decide +kernel | (refine decide_eq_true ?_; simp (disch := omega) only [i64w]; omega))) | (with_reducible first | refine y'n (y'7 ‹_› ‹_›) ?_ | refine y'v (y'8 ‹_› ‹_›) (fun s hs => ?_) | refine y'5 ‹_› ?_ | refine y'6 ‹_› ?_) | ((with_reducible refine y'p ?_ ?_); (· rfl)) | ((with_reducible refine y'q ?_ ?_); (· rfl)) | fail) <;> (conv => whnf))
  refine y'n (decide_eq_true (by show 6 + s.size ≤ _; omega)) ?_
  conv => whnf
  repeat' ((first | ((with_reducible refine y'r ?_ ?_); (· decide +kernel)) | ((with_reducible refine y'g ?_ ?_); (· exact ⟨_, rfl⟩)) | (with_reducible first | refine y'b ‹_› ?_ | refine y'n ‹_› ?_ | refine y'1 ‹_› ?_ | refine y'2 ‹_› ?_ | refine y'3 ?_ | refine y'4 ?_) | ((with_reducible refine y'n ?_ ?_); (· first | with_reducible assumption | exact decide_eq_true (by omega) | exact mkOK_of (by decide) | decide +kernel | (refine decide_eq_true ?_; simp (disch := omega) only [i64w]; omega))) | (with_reducible first | refine y'n (y'7 ‹_› ‹_›) ?_ | refine y'v (y'8 ‹_› ‹_›) (fun s hs => ?_) | refine y'5 ‹_› ?_ | refine y'6 ‹_› ?_) | ((with_reducible refine y'p ?_ ?_); (· rfl)) | ((with_reducible refine y'q ?_ ?_); (· rfl)) | fail) <;> (conv => whnf))
  exact keepOf (v₀ := .a (.str _)) [] [] rfl trivial rfl hK
@[reducible] def HL (T w r : Int) (asked done taken number : Int) (over : Bool) (last : ByteArray) (t : Int) (bd : ByteArray) (at_ go se : Int) (k0 k1 k2 k3 k4 k5 k6 : Int) (k7 : Bool) (k8 : ByteArray) (b n cap : Nat) (tl : Hp) : Hp :=
  .cells [.ptr 1 0, .ptr 2 0, .slc b 0 n cap, .int .i64 asked, .int .i64 done, .int .i64 taken, .int .i64 number, .bool over, .str last] 38 false ::
   .cells (sa 3 9 1 3 5 t w r asked bd at_ go se over) 55 false ::
   .cells (st 3 9 1 5 3 T done false k0 k1 k2 k3 k4 k5 k6 k7 k8) 57 false :: tl
variable (T w r : Int) (asked done taken : Nat) (number : Int) (over : Bool) (last : ByteArray) (t : Int) (bd : ByteArray) (at_ go se : Int) (k0 k1 k2 k3 k4 k5 k6 : Int) (k7 : Bool) (k8 : ByteArray)
set_option maxHeartbeats 2000000 in
theorem arrA (hI : Rep ro ita) (L : List Fm) (G : Good (rp ita) r T asked done taken number over last bd at_ k0 k1 k2 k3 k4 k5 k6 k7 k8 L) (n cap : Nat) (cs : List A) (mk : Bool) (hin : In L cs cap) (hn : n = L.length) (hn9 : n ≤ 100000) (ha9 : asked ≤ 5000)
    (f : Fm) (hf : Okf asked done last (rp ita) f) (hfa : f.an = true) {K : V → Hp → Prop}
    (hK : ∀ (taken : Nat) (t at_ : Int), Good (rp ita) r T asked done taken number over last bd at_ k0 k1 k2 k3 k4 k5 k6 k7 k8 L → K (.a (.bool true)) (HL T w r asked done taken number over last t bd at_ go se k0 k1 k2 k3 k4 k5 k6 k7 k8 3 n cap [.cells cs 44 mk])) :
    Go.Eng.Fn Tryd.prog ro 15 [.a (.ptr 0 0), .g f.row] (HL T w r asked done taken number over last t bd at_ go se k0 k1 k2 k3 k4 k5 k6 k7 k8 3 n cap [.cells cs 44 mk]) K := by
  have hp := hin.pl
  obtain ⟨an, ft, q, s⟩ := f
  obtain rfl : an = true := hfa
  show Go.Eng.Fn Tryd.prog ro 15 [.a (.ptr 0 0), .g (fc 5 3 3 9 1 ft q true s)] _ K
  obtain ⟨m, hq, hmd, hs⟩ := hf.an rfl
  dsimp only at hq hs
  have hw : IntKind.i64.wrap ((taken : Int) + 1) = ((taken + 1 : Nat) : Int) := by rw [i64w (by have := G.a1; have := G.a2; omega) (by have := G.a1; have := G.a2; omega)]; rfl
  have kr := @reply1 ro ita hI (taken + 1) (by have := G.a1; have := G.a2; omega)
  rw [← hw] at kr
  refine Fn.weak ?_
  refine Fn.of 4 harr rfl Tryd.func15 rfl (Nat.le_of_ble_eq_true rfl) ?_
  conv => whnf
  repeat' ((first | ((with_reducible refine y'r ?_ ?_); (· decide +kernel)) | ((with_reducible refine y'g ?_ ?_); (· exact ⟨_, rfl⟩)) | (with_reducible first | refine y'b ‹_› ?_ | refine y'n ‹_› ?_ | refine y'1 ‹_› ?_ | refine y'2 ‹_› ?_ | refine y'3 ?_ | refine y'4 ?_) | ((with_reducible refine y'n ?_ ?_); (· first | with_reducible assumption | exact decide_eq_true (by omega) | exact mkOK_of (by decide) | decide +kernel | (refine decide_eq_true ?_; simp (disch := omega) only [i64w]; omega))) | (with_reducible first | refine y'n (y'7 ‹_› ‹_›) ?_ | refine y'v (y'8 ‹_› ‹_›) (fun s hs => ?_) | refine y'5 ‹_› ?_ | refine y'6 ‹_› ?_) | ((with_reducible refine y'p ?_ ?_); (· rfl)) | ((with_reducible refine y'q ?_ ?_); (· rfl)) | fail) <;> (conv => whnf))
  refine Fn.frame [1] (by rfl) (by exact ⟨rfl, trivial⟩) (by rfl) (take20 _ _ _ _ _ _ _ _ _ _ _ _ _ _ _ _ _ _ _ _ _ _ _ (fun h1 => ?_) (fun h1 => ?_))
  · conv => whnf
    conv => whnf
    repeat' ((first | ((with_reducible refine y'r ?_ ?_); (· decide +kernel)) | ((with_reducible refine y'g ?_ ?_); (· exact ⟨_, rfl⟩)) | (with_reducible first | refine y'b ‹_› ?_ | refine y'n ‹_› ?_ | refine y'1 ‹_› ?_ | refine y'2 ‹_› ?_ | refine y'3 ?_ | refine y'4 ?_) | ((with_reducible refine y'n ?_ ?_); (· first | with_reducible assumption | exact decide_eq_true (by omega) | exact mkOK_of (by decide) | decide +kernel | (refine decide_eq_true ?_; simp (disch := omega) only [i64w]; omega))) | (with_reducible first | refine y'n (y'7 ‹_› ‹_›) ?_ | refine y'v (y'8 ‹_› ‹_›) (fun s hs => ?_) | refine y'5 ‹_› ?_ | refine y'6 ‹_› ?_) | ((with_reducible refine y'p ?_ ?_); (· rfl)) | ((with_reducible refine y'q ?_ ?_); (· rfl)) | fail) <;> (conv => whnf))
    exact keepOf (v₀ := .a (.bool true)) (HL T w r asked done taken number over last t bd at_ go se k0 k1 k2 k3 k4 k5 k6 k7 k8 3 n cap [.cells cs 44 mk]) [0, 1, 2, 3] rfl ⟨rfl, rfl, rfl, ren_pl hp _ _ _, trivial⟩ (by simp [nodupb, baseb, Ob.okb, frmOk, V.okb, A.okb, hp.2] <;> decide) (hK taken t at_ G)
  · obtain ⟨h2, _, _, h5, _⟩ := h1
    have hov : over = false := by
      cases over with
      | false => rfl
      | true => exact absurd (G.ov rfl) h2
    have hlt : taken < asked := by
      have := G.a1
      have := G.a2
      rcases Nat.lt_or_ge taken asked with h | h
      · exact h
      · exact absurd (G.nw hov (by omega)) h2
    have hma : m = asked := by have := G.a2; omega
    have hta : taken + 1 = asked := by have := G.a3; omega
    have G' : Good (rp ita) r T asked done (taken + 1) number over last bd 0 k0 k1 k2 k3 k4 k5 k6 k7 k8 L :=
      ⟨by omega, G.a2, by omega, fun _ => rfl, fun _ h => absurd h (by omega), fun _ _ => rfl, G.nt, G.kp, G.fl⟩
    have c1 : (IntKind.i64.wrap ((taken : Int) + 1) == (asked : Int)) = true := by rw [hw, hta]; simp
    have c2 : (s.data.toList == (rp ita (taken + 1)).data.toList) = true := by rw [hs, hma, hta]; simp
    have hk := hK (taken + 1) ft 0 G'
    have hw2 := hw
    generalize rp ita (taken + 1) = s2 at *
    clear hs G G' hf hK hq h5
    rw [← hw2] at hk
    conv => whnf
    repeat' ((first | ((with_reducible refine y'r ?_ ?_); (· decide +kernel)) | ((with_reducible refine y'g ?_ ?_); (· exact ⟨_, rfl⟩)) | (with_reducible first | refine y'b ‹_› ?_ | refine y'n ‹_› ?_ | refine y'1 ‹_› ?_ | refine y'2 ‹_› ?_ | refine y'3 ?_ | refine y'4 ?_) | ((with_reducible refine y'n ?_ ?_); (· first | with_reducible assumption | exact decide_eq_true (by omega) | exact mkOK_of (by decide) | decide +kernel | (refine decide_eq_true ?_; simp (disch := omega) only [i64w]; omega))) | (with_reducible first | refine y'n (y'7 ‹_› ‹_›) ?_ | refine y'v (y'8 ‹_› ‹_›) (fun s hs => ?_) | refine y'5 ‹_› ?_ | refine y'6 ‹_› ?_) | ((with_reducible refine y'p ?_ ?_); (· rfl)) | ((with_reducible refine y'q ?_ ?_); (· rfl)) | (refine Fn.frame [] (by rfl) (by exact trivial) (by rfl) (kr ?_)) | fail) <;> (conv => whnf))
    exact keepOf (v₀ := .a (.bool true)) (HL T w r asked done (IntKind.i64.wrap ((taken : Int) + 1)) number over last ft bd 0 go se k0 k1 k2 k3 k4 k5 k6 k7 k8 3 n cap [.cells cs 44 mk]) [0, 1, 2, 3] (congrArg (fun b => V.a (.bool b)) c2) ⟨rfl, rfl, rfl, ren_pl hp _ _ _, trivial⟩ (by simp [nodupb, baseb, Ob.okb, frmOk, V.okb, A.okb, hp.2] <;> decide) hk
set_option maxHeartbeats 2000000 in
theorem arrQ (hI : Rep ro ita) (L : List Fm) (G : Good (rp ita) r T asked done taken number over last bd at_ k0 k1 k2 k3 k4 k5 k6 k7 k8 L) (n cap : Nat) (cs : List A) (mk : Bool) (hin : In L cs cap) (hn : n = L.length) (hn9 : n ≤ 100000) (ha9 : asked ≤ 5000)
    (f : Fm) (hf : Okf asked done last (rp ita) f) (hfa : f.an = false) {K : V → Hp → Prop}
    (hK : ∀ (done : Nat) (k0 k1 k2 k3 k4 k5 k6 : Int) (k7 : Bool) (k8 : ByteArray) (L' : List Fm) (cap : Nat) (cs : List A) (mk : Bool), Good (rp ita) r T asked done taken number over last bd at_ k0 k1 k2 k3 k4 k5 k6 k7 k8 L' → In L' cs cap → L'.length ≤ L.length + 1 → K (.a (.bool true)) (HL T w r asked done taken number over last t bd at_ go se k0 k1 k2 k3 k4 k5 k6 k7 k8 3 L'.length cap [.cells cs 44 mk]))
    (hK2 : ∀ (done : Nat) (k0 k1 k2 k3 k4 k5 k6 : Int) (k7 : Bool) (k8 : ByteArray) (L' : List Fm) (cap2 : Nat) (cs2 : List A), Good (rp ita) r T asked done taken number over last bd at_ k0 k1 k2 k3 k4 k5 k6 k7 k8 L' → In L' cs2 cap2 → L'.length ≤ L.length + 1 → K (.a (.bool true)) (HL T w r asked done taken number over last t bd at_ go se k0 k1 k2 k3 k4 k5 k6 k7 k8 4 L'.length cap2 [.cells cs 44 mk, .cells cs2 44 false])) :
    Go.Eng.Fn Tryd.prog ro 15 [.a (.ptr 0 0), .g f.row] (HL T w r asked done taken number over last t bd at_ go se k0 k1 k2 k3 k4 k5 k6 k7 k8 3 n cap [.cells cs 44 mk]) K := by
  have hp := hin.pl
  have hcl := hin.len
  have hle := hin.le
  obtain ⟨z9, hz9⟩ : ∃ z : List A, z = [.int .u8 0, .int .u8 0, .int .u8 0, .int .u16 0, .int .u32 0, .int .u64 0, .int .u32 0, .bool false, .str { data := #[] }] := ⟨_, rfl⟩
  have hzp : Pl z9 := by rw [hz9]; exact ⟨fun _ => rfl, fun _ => rfl⟩
  have hzl : z9.length = 9 := by rw [hz9]; rfl
  have hrz : repl z9 (1 * Tryd.prog.types[44].size) = z9 := by rw [hz9]; rfl
  obtain ⟨an, ft, q, s⟩ := f
  obtain rfl : an = false := hfa
  show Go.Eng.Fn Tryd.prog ro 15 [.a (.ptr 0 0), .g (fc 3 5 3 9 1 ft q false s)] _ K
  obtain ⟨m, hq, hm1, hma⟩ := hf.q0
  have hqs := hf.qs rfl
  dsimp only at hq hqs
  have hda := G.a2
  have hw : IntKind.i64.wrap ((done : Int) + 1) = ((done + 1 : Nat) : Int) := by rw [i64w (by omega) (by omega)]; rfl
  have kr := @reply1 ro ita hI done (by omega)
  have kr1 := @reply1 ro ita hI (done + 1) (by omega)
  rw [← hw] at kr1
  refine Fn.weak ?_
  refine Fn.of 4 harr rfl Tryd.func15 rfl (Nat.le_of_ble_eq_true rfl) ?_
  conv => whnf
  repeat' ((first | ((with_reducible refine y'r ?_ ?_); (· decide +kernel)) | ((with_reducible refine y'g ?_ ?_); (· exact ⟨_, rfl⟩)) | (with_reducible first | refine y'b ‹_› ?_ | refine y'n ‹_› ?_ | refine y'1 ‹_› ?_ | refine y'2 ‹_› ?_ | refine y'3 ?_ | refine y'4 ?_) | ((with_reducible refine y'n ?_ ?_); (· first | with_reducible assumption | exact decide_eq_true (by omega) | exact mkOK_of (by decide) | decide +kernel | (refine decide_eq_true ?_; simp (disch := omega) only [i64w]; omega))) | (with_reducible first | refine y'n (y'7 ‹_› ‹_›) ?_ | refine y'v (y'8 ‹_› ‹_›) (fun s hs => ?_) | refine y'5 ‹_› ?_ | refine y'6 ‹_› ?_) | ((with_reducible refine y'p ?_ ?_); (· rfl)) | ((with_reducible refine y'q ?_ ?_); (· rfl)) | (with_reducible refine y'c (fun h => ?_) (fun h => ?_)) | (with_reducible refine And.intro ?_ ?_) | fail) <;> (conv => whnf))
  ·
    skip
    refine Fn.frame [2] (by rfl) (by exact ⟨rfl, trivial⟩) (by rfl) (take9 _ _ _ _ _ _ _ _ _ _ _ _ _ _ _ _ _ _ _ _ _ _ _ _ _ _ (by omega) (by omega) (fun h1 => ?_) (fun h1 => ?_) (fun h1 => ?_))
    ·
      skip
      conv => whnf
      repeat' ((first | ((with_reducible refine y'r ?_ ?_); (· decide +kernel)) | ((with_reducible refine y'g ?_ ?_); (· exact ⟨_, rfl⟩)) | (with_reducible first | refine y'b ‹_› ?_ | refine y'n ‹_› ?_ | refine y'1 ‹_› ?_ | refine y'2 ‹_› ?_ | refine y'3 ?_ | refine y'4 ?_) | ((with_reducible refine y'n ?_ ?_); (· first | with_reducible assumption | exact decide_eq_true (by omega) | exact mkOK_of (by decide) | decide +kernel | (refine decide_eq_true ?_; simp (disch := omega) only [i64w]; omega))) | (with_reducible first | refine y'n (y'7 ‹_› ‹_›) ?_ | refine y'v (y'8 ‹_› ‹_›) (fun s hs => ?_) | refine y'5 ‹_› ?_ | refine y'6 ‹_› ?_) | ((with_reducible refine y'p ?_ ?_); (· rfl)) | ((with_reducible refine y'q ?_ ?_); (· rfl)) | fail) <;> (conv => whnf))
      rw [hn]
      exact keepOf (v₀ := .a (.bool true)) (HL T w r asked done taken number over last t bd at_ go se k0 k1 k2 k3 k4 k5 k6 k7 k8 3 L.length cap [.cells cs 44 mk]) [0, 1, 2, 3] rfl ⟨rfl, rfl, rfl, ren_pl hp _ _ _, trivial⟩ (by simp [nodupb, baseb, Ob.okb, frmOk, V.okb, A.okb, hp.2] <;> decide) (hK done k0 k1 k2 k3 k4 k5 k6 k7 k8 L cap cs mk G hin (by omega))
    ·
      have hd0 : 0 < done := by clear hK kr kr1; unfold tk at h1; grind
      obtain ⟨rfl, rfl, rfl, rfl, rfl, rfl, rfl, rfl, rfl⟩ := G.kp hd0
      obtain ⟨x, hx⟩ : ∃ x : Fm, x = ⟨true, k5, done, rp ita done⟩ := ⟨_, rfl⟩
      have hx1 : List.drop 0 (List.take (0 + 1 * Tryd.prog.types[44].size) [.int .u8 5, .int .u8 3, .int .u8 3, .int .u16 9, .int .u32 1, .int .u64 k5, .int .u32 (done : Int), .bool true, .str (rp ita done)]) = fms [⟨true, k5, done, rp ita done⟩] := row1 ⟨true, k5, done, rp ita done⟩
      rw [← hx] at hx1
      have G' : Good (rp ita) r k5 asked done taken number over last bd at_ 5 3 3 9 1 k5 done true (rp ita done) (L ++ [x]) := by
        refine ⟨G.a1, G.a2, G.a3, G.ov, G.wt, G.nw, G.nt, G.kp, fun y hy => ?_⟩
        rcases List.mem_append.1 hy with hy | hy
        · exact G.fl y hy
        · obtain rfl := List.mem_singleton.1 hy
          rw [hx]
          exact ⟨⟨done, rfl, hd0, hda⟩, (fun h => nomatch h), fun _ => ⟨done, rfl, Nat.le_refl _, rfl⟩⟩
      have hk := fun cap cs mk (h : In (L ++ [x]) cs cap) => hK done 5 3 3 9 1 k5 done true (rp ita done) (L ++ [x]) cap cs mk G' h (by simp)
      have hk2 := fun cap2 cs2 (h : In (L ++ [x]) cs2 cap2) => hK2 done 5 3 3 9 1 k5 done true (rp ita done) (L ++ [x]) cap2 cs2 G' h (by simp)
      have e1 : (L ++ [x]).length = n + 1 := by rw [hn]; simp
      rw [e1] at hk hk2
      have c2 : ((rp ita done).data.toList == (rp ita done).data.toList) = true := by simp
      have c3 : ((done : Int) == IntKind.u32.wrap (done : Int)) = true := by rw [wrap32 _ (by omega) (by omega)]; simp
      clear hK hK2 G G'
      conv => whnf
      repeat' ((first | ((with_reducible refine y'r ?_ ?_); (· decide +kernel)) | ((with_reducible refine y'g ?_ ?_); (· exact ⟨_, rfl⟩)) | (with_reducible first | refine y'b ‹_› ?_ | refine y'n ‹_› ?_ | refine y'1 ‹_› ?_ | refine y'2 ‹_› ?_ | refine y'3 ?_ | refine y'4 ?_) | ((with_reducible refine y'n ?_ ?_); (· first | with_reducible assumption | exact decide_eq_true (by omega) | exact mkOK_of (by decide) | decide +kernel | (refine decide_eq_true ?_; simp (disch := omega) only [i64w]; omega))) | (with_reducible first | refine y'n (y'7 ‹_› ‹_›) ?_ | refine y'v (y'8 ‹_› ‹_›) (fun s hs => ?_) | refine y'5 ‹_› ?_ | refine y'6 ‹_› ?_) | ((with_reducible refine y'p ?_ ?_); (· rfl)) | ((with_reducible refine y'q ?_ ?_); (· rfl)) | fail) <;> (conv => whnf))
      rw [hx1]
      refine y'c (fun hc => ?_) (fun hc => ?_)
      · have hc' := of_decide_eq_true hc
        conv => whnf
        refine y'n (decide_eq_true (by rw [s44, fms_length, hcl]; simp; omega)) ?_
        conv => whnf
        repeat' ((first | ((with_reducible refine y'r ?_ ?_); (· decide +kernel)) | ((with_reducible refine y'g ?_ ?_); (· exact ⟨_, rfl⟩)) | (with_reducible first | refine y'b ‹_› ?_ | refine y'n ‹_› ?_ | refine y'1 ‹_› ?_ | refine y'2 ‹_› ?_ | refine y'3 ?_ | refine y'4 ?_) | ((with_reducible refine y'n ?_ ?_); (· first | with_reducible assumption | exact decide_eq_true (by omega) | exact mkOK_of (by decide) | decide +kernel | (refine decide_eq_true ?_; simp (disch := omega) only [i64w]; omega))) | (with_reducible first | refine y'n (y'7 ‹_› ‹_›) ?_ | refine y'v (y'8 ‹_› ‹_›) (fun s hs => ?_) | refine y'5 ‹_› ?_ | refine y'6 ‹_› ?_) | ((with_reducible refine y'p ?_ ?_); (· rfl)) | ((with_reducible refine y'q ?_ ?_); (· rfl)) | fail) <;> (conv => whnf))
        refine y'f rfl (fun cs2 hcs2 => ?_)
        have hin2 : In (L ++ [x]) cs2 cap := by rw [hcs2]; exact hin.store (by rw [s44, hn]; omega) (by simp; omega)
        have hp2 := hin2.pl
        clear hcs2
        conv => whnf
        repeat' ((first | ((with_reducible refine y'r ?_ ?_); (· decide +kernel)) | ((with_reducible refine y'g ?_ ?_); (· exact ⟨_, rfl⟩)) | (with_reducible first | refine y'b ‹_› ?_ | refine y'n ‹_› ?_ | refine y'1 ‹_› ?_ | refine y'2 ‹_› ?_ | refine y'3 ?_ | refine y'4 ?_) | ((with_reducible refine y'n ?_ ?_); (· first | with_reducible assumption | exact decide_eq_true (by omega) | exact mkOK_of (by decide) | decide +kernel | (refine decide_eq_true ?_; simp (disch := omega) only [i64w]; omega))) | (with_reducible first | refine y'n (y'7 ‹_› ‹_›) ?_ | refine y'v (y'8 ‹_› ‹_›) (fun s hs => ?_) | refine y'5 ‹_› ?_ | refine y'6 ‹_› ?_) | ((with_reducible refine y'p ?_ ?_); (· rfl)) | ((with_reducible refine y'q ?_ ?_); (· rfl)) | (refine Fn.frame [] (by rfl) (by exact trivial) (by rfl) (kr ?_)) | fail) <;> (conv => whnf))
        exact keepOf (v₀ := .a (.bool true)) (HL k5 w r asked done taken number over last t bd at_ go se 5 3 3 9 1 k5 done true (rp ita done) 3 (n + 1) cap [.cells cs2 44 mk]) [0, 1, 2, 3] (congrArg (fun b => V.a (.bool b)) c3) ⟨rfl, rfl, rfl, ren_pl hp2 _ _ _, trivial⟩ (by simp [nodupb, baseb, Ob.okb, frmOk, V.okb, A.okb, hp2.2] <;> decide) (hk cap cs2 mk hin2)
      · have hc' := of_decide_eq_false hc
        conv => whnf
        refine y'n (decide_eq_true (by rw [s44, b44, hcl]; omega)) ?_
        intro cap2 hcap2
        conv => whnf
        repeat' ((first | ((with_reducible refine y'r ?_ ?_); (· decide +kernel)) | ((with_reducible refine y'g ?_ ?_); (· exact ⟨_, rfl⟩)) | (with_reducible first | refine y'b ‹_› ?_ | refine y'n ‹_› ?_ | refine y'1 ‹_› ?_ | refine y'2 ‹_› ?_ | refine y'3 ?_ | refine y'4 ?_) | ((with_reducible refine y'n ?_ ?_); (· first | with_reducible assumption | exact decide_eq_true (by omega) | exact mkOK_of (by decide) | decide +kernel | (refine decide_eq_true ?_; simp (disch := omega) only [i64w]; omega))) | (with_reducible first | refine y'n (y'7 ‹_› ‹_›) ?_ | refine y'v (y'8 ‹_› ‹_›) (fun s hs => ?_) | refine y'5 ‹_› ?_ | refine y'6 ‹_› ?_) | ((with_reducible refine y'p ?_ ?_); (· rfl)) | ((with_reducible refine y'q ?_ ?_); (· rfl)) | fail) <;> (conv => whnf))
        refine y'f rfl (fun cs2 hcs2 => ?_)
        have hin2 : In (L ++ [x]) cs2 cap2 := by
          rw [hcs2]
          have := hin.new (M := [x]) (o := n * Tryd.prog.types[44].size) (c := cap2) (z := z9l) (by rw [s44, hn]) rfl (by simp; omega)
          rw [List.length_singleton, ← hn] at this
          exact this
        have hp2 := hin2.pl
        clear hcs2
        conv => whnf
        repeat' ((first | ((with_reducible refine y'r ?_ ?_); (· decide +kernel)) | ((with_reducible refine y'g ?_ ?_); (· exact ⟨_, rfl⟩)) | (with_reducible first | refine y'b ‹_› ?_ | refine y'n ‹_› ?_ | refine y'1 ‹_› ?_ | refine y'2 ‹_› ?_ | refine y'3 ?_ | refine y'4 ?_) | ((with_reducible refine y'n ?_ ?_); (· first | with_reducible assumption | exact decide_eq_true (by omega) | exact mkOK_of (by decide) | decide +kernel | (refine decide_eq_true ?_; simp (disch := omega) only [i64w]; omega))) | (with_reducible first | refine y'n (y'7 ‹_› ‹_›) ?_ | refine y'v (y'8 ‹_› ‹_›) (fun s hs => ?_) | refine y'5 ‹_› ?_ | refine y'6 ‹_› ?_) | ((with_reducible refine y'p ?_ ?_); (· rfl)) | ((with_reducible refine y'q ?_ ?_); (· rfl)) | (refine Fn.frame [] (by rfl) (by exact trivial) (by rfl) (kr ?_)) | fail) <;> (conv => whnf))
        exact keepOf (v₀ := .a (.bool true)) (HL k5 w r asked done taken number over last t bd at_ go se 5 3 3 9 1 k5 done true (rp ita done) 4 (n + 1) cap2 [.cells cs 44 mk, .cells cs2 44 false]) [0, 1, 2, 3, 7] (congrArg (fun b => V.a (.bool b)) c3) ⟨rfl, rfl, rfl, ren_pl hp _ _ _, ren_pl hp2 _ _ _, trivial⟩ (by simp [nodupb, baseb, Ob.okb, frmOk, V.okb, A.okb, hp.2, hp2.2] <;> decide) (hk2 cap2 cs2 hin2)
    ·
      have hqd : q = ((done + 1 : Nat) : Int) := by clear hK kr kr1; unfold tk at h1; have : q = (done : Int) + 1 := by grind
                                                    omega
      obtain rfl : m = done + 1 := by omega
      have had : asked = done + 1 := by have := G.a1; have := G.a3; omega
      subst hqd
      clear hq
      have hsl := hqs (by rw [had])
      obtain ⟨x, hx⟩ : ∃ x : Fm, x = ⟨true, T, (done + 1 : Nat), rp ita (done + 1)⟩ := ⟨_, rfl⟩
      have hx1 : List.drop 0 (List.take (0 + 1 * Tryd.prog.types[44].size) [.int .u8 5, .int .u8 3, .int .u8 3, .int .u16 9, .int .u32 1, .int .u64 T, .int .u32 ((done + 1 : Nat) : Int), .bool true, .str (rp ita (done + 1))]) = fms [⟨true, T, (done + 1 : Nat), rp ita (done + 1)⟩] := row1 ⟨true, T, (done + 1 : Nat), rp ita (done + 1)⟩
      rw [← hx] at hx1
      have G' : Good (rp ita) r T asked (done + 1) taken number over last bd at_ 5 3 3 9 1 T (done + 1 : Nat) true (rp ita (done + 1)) (L ++ [x]) := by
        refine ⟨by have := G.a1; omega, by omega, G.a3, G.ov, G.wt, G.nw, G.nt, fun _ => ⟨rfl, rfl, rfl, rfl, rfl, rfl, rfl, rfl, rfl⟩, fun y hy => ?_⟩
        rcases List.mem_append.1 hy with hy | hy
        · obtain ⟨y1, y2, y3⟩ := G.fl y hy
          exact ⟨y1, y2, fun h => by obtain ⟨i, i1, i2, i3⟩ := y3 h; exact ⟨i, i1, by omega, i3⟩⟩
        · obtain rfl := List.mem_singleton.1 hy
          rw [hx]
          exact ⟨⟨done + 1, rfl, by omega, by omega⟩, (fun h => nomatch h), fun _ => ⟨done + 1, rfl, Nat.le_refl _, rfl⟩⟩
      have hk := fun cap cs mk (h : In (L ++ [x]) cs cap) => hK (done + 1) 5 3 3 9 1 T (done + 1 : Nat) true (rp ita (done + 1)) (L ++ [x]) cap cs mk G' h (by simp)
      have hk2 := fun cap2 cs2 (h : In (L ++ [x]) cs2 cap2) => hK2 (done + 1) 5 3 3 9 1 T (done + 1 : Nat) true (rp ita (done + 1)) (L ++ [x]) cap2 cs2 G' h (by simp)
      have e1 : (L ++ [x]).length = n + 1 := by rw [hn]; simp
      rw [e1] at hk hk2
      have c1 : (((done + 1 : Nat) : Int) == (asked : Int)) = true := by rw [had]; simp
      have c2 : (s.data.toList == last.data.toList) = true := by rw [hsl]; simp
      rw [hw] at kr1
      clear hK hK2 G G'
      conv => whnf
      repeat' ((first | rw [hw] | ((with_reducible refine y'r ?_ ?_); (· decide +kernel)) | ((with_reducible refine y'g ?_ ?_); (· exact ⟨_, rfl⟩)) | (with_reducible first | refine y'b ‹_› ?_ | refine y'n ‹_› ?_ | refine y'1 ‹_› ?_ | refine y'2 ‹_› ?_ | refine y'3 ?_ | refine y'4 ?_) | ((with_reducible refine y'n ?_ ?_); (· first | with_reducible assumption | exact decide_eq_true (by omega) | exact mkOK_of (by decide) | decide +kernel | (refine decide_eq_true ?_; simp (disch := omega) only [i64w]; omega))) | (with_reducible first | refine y'n (y'7 ‹_› ‹_›) ?_ | refine y'v (y'8 ‹_› ‹_›) (fun s hs => ?_) | refine y'5 ‹_› ?_ | refine y'6 ‹_› ?_) | ((with_reducible refine y'p ?_ ?_); (· rfl)) | ((with_reducible refine y'q ?_ ?_); (· rfl)) | (with_reducible refine And.intro ?_ ?_) | (refine Fn.frame [] (by rfl) (by exact trivial) (by rfl) (kr1 ?_)) | (refine Fn.frame [2] (by rfl) (by exact ⟨rfl, trivial⟩) (by rfl) (replyO _ _ _ _ _ _ _ _ _ _ _ _ _ _ _ _ _ ?_)) | fail) <;> (conv => whnf))
      all_goals
        rw [hx1]
        refine y'c (fun hc => ?_) (fun hc => ?_)
        · have hc' := of_decide_eq_true hc
          conv => whnf
          refine y'n (decide_eq_true (by rw [s44, fms_length, hcl]; simp; omega)) ?_
          conv => whnf
          repeat' ((first | ((with_reducible refine y'r ?_ ?_); (· decide +kernel)) | ((with_reducible refine y'g ?_ ?_); (· exact ⟨_, rfl⟩)) | (with_reducible first | refine y'b ‹_› ?_ | refine y'n ‹_› ?_ | refine y'1 ‹_› ?_ | refine y'2 ‹_› ?_ | refine y'3 ?_ | refine y'4 ?_) | ((with_reducible refine y'n ?_ ?_); (· first | with_reducible assumption | exact decide_eq_true (by omega) | exact mkOK_of (by decide) | decide +kernel | (refine decide_eq_true ?_; simp (disch := omega) only [i64w]; omega))) | (with_reducible first | refine y'n (y'7 ‹_› ‹_›) ?_ | refine y'v (y'8 ‹_› ‹_›) (fun s hs => ?_) | refine y'5 ‹_› ?_ | refine y'6 ‹_› ?_) | ((with_reducible refine y'p ?_ ?_); (· rfl)) | ((with_reducible refine y'q ?_ ?_); (· rfl)) | fail) <;> (conv => whnf))
          refine y'f rfl (fun cs2 hcs2 => ?_)
          have hin2 : In (L ++ [x]) cs2 cap := by rw [hcs2]; exact hin.store (by rw [s44, hn]; omega) (by simp; omega)
          have hp2 := hin2.pl
          clear hcs2
          conv => whnf
          repeat' ((first | ((with_reducible refine y'r ?_ ?_); (· decide +kernel)) | ((with_reducible refine y'g ?_ ?_); (· exact ⟨_, rfl⟩)) | (with_reducible first | refine y'b ‹_› ?_ | refine y'n ‹_› ?_ | refine y'1 ‹_› ?_ | refine y'2 ‹_› ?_ | refine y'3 ?_ | refine y'4 ?_) | ((with_reducible refine y'n ?_ ?_); (· first | with_reducible assumption | exact decide_eq_true (by omega) | exact mkOK_of (by decide) | decide +kernel | (refine decide_eq_true ?_; simp (disch := omega) only [i64w]; omega))) | (with_reducible first | refine y'n (y'7 ‹_› ‹_›) ?_ | refine y'v (y'8 ‹_› ‹_›) (fun s hs => ?_) | refine y'5 ‹_› ?_ | refine y'6 ‹_› ?_) | ((with_reducible refine y'p ?_ ?_); (· rfl)) | ((with_reducible refine y'q ?_ ?_); (· rfl)) | (refine Fn.frame [] (by rfl) (by exact trivial) (by rfl) (kr ?_)) | fail) <;> (conv => whnf))
          exact keepOf (v₀ := .a (.bool true)) (HL T w r asked (done + 1 : Nat) taken number over last t bd at_ go se 5 3 3 9 1 T (done + 1 : Nat) true (rp ita (done + 1)) 3 (n + 1) cap [.cells cs2 44 mk]) [0, 1, 2, 3] (congrArg (fun b => V.a (.bool b)) c2) ⟨rfl, rfl, rfl, ren_pl hp2 _ _ _, trivial⟩ (by simp [nodupb, baseb, Ob.okb, frmOk, V.okb, A.okb, hp2.2] <;> decide) (hk cap cs2 mk hin2)
        · have hc' := of_decide_eq_false hc
          conv => whnf
          refine y'n (decide_eq_true (by rw [s44, b44, hcl]; omega)) ?_
          intro cap2 hcap2
          conv => whnf
          repeat' ((first | ((with_reducible refine y'r ?_ ?_); (· decide +kernel)) | ((with_reducible refine y'g ?_ ?_); (· exact ⟨_, rfl⟩)) | (with_reducible first | refine y'b ‹_› ?_ | refine y'n ‹_› ?_ | refine y'1 ‹_› ?_ | refine y'2 ‹_› ?_ | refine y'3 ?_ | refine y'4 ?_) | ((with_reducible refine y'n ?_ ?_); (· first | with_reducible assumption | exact decide_eq_true (by omega) | exact mkOK_of (by decide) | decide +kernel | (refine decide_eq_true ?_; simp (disch := omega) only [i64w]; omega))) | (with_reducible first | refine y'n (y'7 ‹_› ‹_›) ?_ | refine y'v (y'8 ‹_› ‹_›) (fun s hs => ?_) | refine y'5 ‹_› ?_ | refine y'6 ‹_› ?_) | ((with_reducible refine y'p ?_ ?_); (· rfl)) | ((with_reducible refine y'q ?_ ?_); (· rfl)) | fail) <;> (conv => whnf))
          refine y'f rfl (fun cs2 hcs2 => ?_)
          have hin2 : In (L ++ [x]) cs2 cap2 := by
            rw [hcs2]
            have := hin.new (M := [x]) (o := n * Tryd.prog.types[44].size) (c := cap2) (z := z9l) (by rw [s44, hn]) rfl (by simp; omega)
            rw [List.length_singleton, ← hn] at this
            exact this
          have hp2 := hin2.pl
          clear hcs2
          conv => whnf
          repeat' ((first | ((with_reducible refine y'r ?_ ?_); (· decide +kernel)) | ((with_reducible refine y'g ?_ ?_); (· exact ⟨_, rfl⟩)) | (with_reducible first | refine y'b ‹_› ?_ | refine y'n ‹_› ?_ | refine y'1 ‹_› ?_ | refine y'2 ‹_› ?_ | refine y'3 ?_ | refine y'4 ?_) | ((with_reducible refine y'n ?_ ?_); (· first | with_reducible assumption | exact decide_eq_true (by omega) | exact mkOK_of (by decide) | decide +kernel | (refine decide_eq_true ?_; simp (disch := omega) only [i64w]; omega))) | (with_reducible first | refine y'n (y'7 ‹_› ‹_›) ?_ | refine y'v (y'8 ‹_› ‹_›) (fun s hs => ?_) | refine y'5 ‹_› ?_ | refine y'6 ‹_› ?_) | ((with_reducible refine y'p ?_ ?_); (· rfl)) | ((with_reducible refine y'q ?_ ?_); (· rfl)) | (refine Fn.frame [] (by rfl) (by exact trivial) (by rfl) (kr ?_)) | fail) <;> (conv => whnf))
          exact keepOf (v₀ := .a (.bool true)) (HL T w r asked (done + 1 : Nat) taken number over last t bd at_ go se 5 3 3 9 1 T (done + 1 : Nat) true (rp ita (done + 1)) 4 (n + 1) cap2 [.cells cs 44 mk, .cells cs2 44 false]) [0, 1, 2, 3, 8] (congrArg (fun b => V.a (.bool b)) c2) ⟨rfl, rfl, rfl, ren_pl hp _ _ _, ren_pl hp2 _ _ _, trivial⟩ (by simp [nodupb, baseb, Ob.okb, frmOk, V.okb, A.okb, hp.2, hp2.2] <;> decide) (hk2 cap2 cs2 hin2)
  ·
    skip
    refine Fn.frame [2] (by rfl) (by exact ⟨rfl, trivial⟩) (by rfl) (take9 _ _ _ _ _ _ _ _ _ _ _ _ _ _ _ _ _ _ _ _ _ _ _ _ _ _ (by omega) (by omega) (fun h1 => ?_) (fun h1 => ?_) (fun h1 => ?_))
    ·
      skip
      conv => whnf
      repeat' ((first | ((with_reducible refine y'r ?_ ?_); (· decide +kernel)) | ((with_reducible refine y'g ?_ ?_); (· exact ⟨_, rfl⟩)) | (with_reducible first | refine y'b ‹_› ?_ | refine y'n ‹_› ?_ | refine y'1 ‹_› ?_ | refine y'2 ‹_› ?_ | refine y'3 ?_ | refine y'4 ?_) | ((with_reducible refine y'n ?_ ?_); (· first | with_reducible assumption | exact decide_eq_true (by omega) | exact mkOK_of (by decide) | decide +kernel | (refine decide_eq_true ?_; simp (disch := omega) only [i64w]; omega))) | (with_reducible first | refine y'n (y'7 ‹_› ‹_›) ?_ | refine y'v (y'8 ‹_› ‹_›) (fun s hs => ?_) | refine y'5 ‹_› ?_ | refine y'6 ‹_› ?_) | ((with_reducible refine y'p ?_ ?_); (· rfl)) | ((with_reducible refine y'q ?_ ?_); (· rfl)) | fail) <;> (conv => whnf))
      rw [hn]
      exact keepOf (v₀ := .a (.bool true)) (HL T w r asked done taken number over last t bd at_ go se k0 k1 k2 k3 k4 k5 k6 k7 k8 3 L.length cap [.cells cs 44 mk]) [0, 1, 2, 3] rfl ⟨rfl, rfl, rfl, ren_pl hp _ _ _, trivial⟩ (by simp [nodupb, baseb, Ob.okb, frmOk, V.okb, A.okb, hp.2] <;> decide) (hK done k0 k1 k2 k3 k4 k5 k6 k7 k8 L cap cs mk G hin (by omega))
    ·
      have hd0 : 0 < done := by clear hK kr kr1; unfold tk at h1; grind
      obtain ⟨rfl, rfl, rfl, rfl, rfl, rfl, rfl, rfl, rfl⟩ := G.kp hd0
      obtain ⟨x, hx⟩ : ∃ x : Fm, x = ⟨true, k5, done, rp ita done⟩ := ⟨_, rfl⟩
      have hx1 : List.drop 0 (List.take (0 + 1 * Tryd.prog.types[44].size) [.int .u8 5, .int .u8 3, .int .u8 3, .int .u16 9, .int .u32 1, .int .u64 k5, .int .u32 (done : Int), .bool true, .str (rp ita done)]) = fms [⟨true, k5, done, rp ita done⟩] := row1 ⟨true, k5, done, rp ita done⟩
      rw [← hx] at hx1
      have G' : Good (rp ita) r k5 asked done taken number over last bd at_ 5 3 3 9 1 k5 done true (rp ita done) (L ++ [x]) := by
        refine ⟨G.a1, G.a2, G.a3, G.ov, G.wt, G.nw, G.nt, G.kp, fun y hy => ?_⟩
        rcases List.mem_append.1 hy with hy | hy
        · exact G.fl y hy
        · obtain rfl := List.mem_singleton.1 hy
          rw [hx]
          exact ⟨⟨done, rfl, hd0, hda⟩, (fun h => nomatch h), fun _ => ⟨done, rfl, Nat.le_refl _, rfl⟩⟩
      have hk := fun cap cs mk (h : In (L ++ [x]) cs cap) => hK done 5 3 3 9 1 k5 done true (rp ita done) (L ++ [x]) cap cs mk G' h (by simp)
      have hk2 := fun cap2 cs2 (h : In (L ++ [x]) cs2 cap2) => hK2 done 5 3 3 9 1 k5 done true (rp ita done) (L ++ [x]) cap2 cs2 G' h (by simp)
      have e1 : (L ++ [x]).length = n + 1 := by rw [hn]; simp
      rw [e1] at hk hk2
      have c2 : ((rp ita done).data.toList == (rp ita done).data.toList) = true := by simp
      have c3 : ((done : Int) == IntKind.u32.wrap (done : Int)) = true := by rw [wrap32 _ (by omega) (by omega)]; simp
      clear hK hK2 G G'
      conv => whnf
      repeat' ((first | ((with_reducible refine y'r ?_ ?_); (· decide +kernel)) | ((with_reducible refine y'g ?_ ?_); (· exact ⟨_, rfl⟩)) | (with_reducible first | refine y'b ‹_› ?_ | refine y'n ‹_› ?_ | refine y'1 ‹_› ?_ | refine y'2 ‹_› ?_ | refine y'3 ?_ | refine y'4 ?_) | ((with_reducible refine y'n ?_ ?_); (· first | with_reducible assumption | exact decide_eq_true (by omega) | exact mkOK_of (by decide) | decide +kernel | (refine decide_eq_true ?_; simp (disch := omega) only [i64w]; omega))) | (with_reducible first | refine y'n (y'7 ‹_› ‹_›) ?_ | refine y'v (y'8 ‹_› ‹_›) (fun s hs => ?_) | refine y'5 ‹_› ?_ | refine y'6 ‹_› ?_) | ((with_reducible refine y'p ?_ ?_); (· rfl)) | ((with_reducible refine y'q ?_ ?_); (· rfl)) | fail) <;> (conv => whnf))
      rw [hx1]
      refine y'c (fun hc => ?_) (fun hc => ?_)
      · have hc' := of_decide_eq_true hc
        conv => whnf
        refine y'n (decide_eq_true (by rw [s44, fms_length, hcl]; simp; omega)) ?_
        conv => whnf
        repeat' ((first | ((with_reducible refine y'r ?_ ?_); (· decide +kernel)) | ((with_reducible refine y'g ?_ ?_); (· exact ⟨_, rfl⟩)) | (with_reducible first | refine y'b ‹_› ?_ | refine y'n ‹_› ?_ | refine y'1 ‹_› ?_ | refine y'2 ‹_› ?_ | refine y'3 ?_ | refine y'4 ?_) | ((with_reducible refine y'n ?_ ?_); (· first | with_reducible assumption | exact decide_eq_true (by omega) | exact mkOK_of (by decide) | decide +kernel | (refine decide_eq_true ?_; simp (disch := omega) only [i64w]; omega))) | (with_reducible first | refine y'n (y'7 ‹_› ‹_›) ?_ | refine y'v (y'8 ‹_› ‹_›) (fun s hs => ?_) | refine y'5 ‹_› ?_ | refine y'6 ‹_› ?_) | ((with_reducible refine y'p ?_ ?_); (· rfl)) | ((with_reducible refine y'q ?_ ?_); (· rfl)) | fail) <;> (conv => whnf))
        refine y'f rfl (fun cs2 hcs2 => ?_)
        have hin2 : In (L ++ [x]) cs2 cap := by rw [hcs2]; exact hin.store (by rw [s44, hn]; omega) (by simp; omega)
        have hp2 := hin2.pl
        clear hcs2
        conv => whnf
        repeat' ((first | ((with_reducible refine y'r ?_ ?_); (· decide +kernel)) | ((with_reducible refine y'g ?_ ?_); (· exact ⟨_, rfl⟩)) | (with_reducible first | refine y'b ‹_› ?_ | refine y'n ‹_› ?_ | refine y'1 ‹_› ?_ | refine y'2 ‹_› ?_ | refine y'3 ?_ | refine y'4 ?_) | ((with_reducible refine y'n ?_ ?_); (· first | with_reducible assumption | exact decide_eq_true (by omega) | exact mkOK_of (by decide) | decide +kernel | (refine decide_eq_true ?_; simp (disch := omega) only [i64w]; omega))) | (with_reducible first | refine y'n (y'7 ‹_› ‹_›) ?_ | refine y'v (y'8 ‹_› ‹_›) (fun s hs => ?_) | refine y'5 ‹_› ?_ | refine y'6 ‹_› ?_) | ((with_reducible refine y'p ?_ ?_); (· rfl)) | ((with_reducible refine y'q ?_ ?_); (· rfl)) | (refine Fn.frame [] (by rfl) (by exact trivial) (by rfl) (kr ?_)) | fail) <;> (conv => whnf))
        exact keepOf (v₀ := .a (.bool true)) (HL k5 w r asked done taken number over last t bd at_ go se 5 3 3 9 1 k5 done true (rp ita done) 3 (n + 1) cap [.cells cs2 44 mk]) [0, 1, 2, 3] (congrArg (fun b => V.a (.bool b)) c3) ⟨rfl, rfl, rfl, ren_pl hp2 _ _ _, trivial⟩ (by simp [nodupb, baseb, Ob.okb, frmOk, V.okb, A.okb, hp2.2] <;> decide) (hk cap cs2 mk hin2)
      · have hc' := of_decide_eq_false hc
        conv => whnf
        refine y'n (decide_eq_true (by rw [s44, b44, hcl]; omega)) ?_
        intro cap2 hcap2
        conv => whnf
        repeat' ((first | ((with_reducible refine y'r ?_ ?_); (· decide +kernel)) | ((with_reducible refine y'g ?_ ?_); (· exact ⟨_, rfl⟩)) | (with_reducible first | refine y'b ‹_› ?_ | refine y'n ‹_› ?_ | refine y'1 ‹_› ?_ | refine y'2 ‹_› ?_ | refine y'3 ?_ | refine y'4 ?_) | ((with_reducible refine y'n ?_ ?_); (· first | with_reducible assumption | exact decide_eq_true (by omega) | exact mkOK_of (by decide) | decide +kernel | (refine decide_eq_true ?_; simp (disch := omega) only [i64w]; omega))) | (with_reducible first | refine y'n (y'7 ‹_› ‹_›) ?_ | refine y'v (y'8 ‹_› ‹_›) (fun s hs => ?_) | refine y'5 ‹_› ?_ | refine y'6 ‹_› ?_) | ((with_reducible refine y'p ?_ ?_); (· rfl)) | ((with_reducible refine y'q ?_ ?_); (· rfl)) | fail) <;> (conv => whnf))
        refine y'f rfl (fun cs2 hcs2 => ?_)
        have hin2 : In (L ++ [x]) cs2 cap2 := by
          rw [hcs2]
          have := hin.new (M := [x]) (o := n * Tryd.prog.types[44].size) (c := cap2) (z := z9l) (by rw [s44, hn]) rfl (by simp; omega)
          rw [List.length_singleton, ← hn] at this
          exact this
        have hp2 := hin2.pl
        clear hcs2
        conv => whnf
        repeat' ((first | ((with_reducible refine y'r ?_ ?_); (· decide +kernel)) | ((with_reducible refine y'g ?_ ?_); (· exact ⟨_, rfl⟩)) | (with_reducible first | refine y'b ‹_› ?_ | refine y'n ‹_› ?_ | refine y'1 ‹_› ?_ | refine y'2 ‹_› ?_ | refine y'3 ?_ | refine y'4 ?_) | ((with_reducible refine y'n ?_ ?_); (· first | with_reducible assumption | exact decide_eq_true (by omega) | exact mkOK_of (by decide) | decide +kernel | (refine decide_eq_true ?_; simp (disch := omega) only [i64w]; omega))) | (with_reducible first | refine y'n (y'7 ‹_› ‹_›) ?_ | refine y'v (y'8 ‹_› ‹_›) (fun s hs => ?_) | refine y'5 ‹_› ?_ | refine y'6 ‹_› ?_) | ((with_reducible refine y'p ?_ ?_); (· rfl)) | ((with_reducible refine y'q ?_ ?_); (· rfl)) | (refine Fn.frame [] (by rfl) (by exact trivial) (by rfl) (kr ?_)) | fail) <;> (conv => whnf))
        exact keepOf (v₀ := .a (.bool true)) (HL k5 w r asked done taken number over last t bd at_ go se 5 3 3 9 1 k5 done true (rp ita done) 4 (n + 1) cap2 [.cells cs 44 mk, .cells cs2 44 false]) [0, 1, 2, 3, 7] (congrArg (fun b => V.a (.bool b)) c3) ⟨rfl, rfl, rfl, ren_pl hp _ _ _, ren_pl hp2 _ _ _, trivial⟩ (by simp [nodupb, baseb, Ob.okb, frmOk, V.okb, A.okb, hp.2, hp2.2] <;> decide) (hk2 cap2 cs2 hin2)
    ·
      have hqd : q = ((done + 1 : Nat) : Int) := by clear hK kr kr1; unfold tk at h1; have : q = (done : Int) + 1 := by grind
                                                    omega
      obtain rfl : m = done + 1 := by omega
      have had : asked = done + 1 := by have := G.a1; have := G.a3; omega
      subst hqd
      clear hq
      have hsl := hqs (by rw [had])
      obtain ⟨x, hx⟩ : ∃ x : Fm, x = ⟨true, T, (done + 1 : Nat), rp ita (done + 1)⟩ := ⟨_, rfl⟩
      have hx1 : List.drop 0 (List.take (0 + 1 * Tryd.prog.types[44].size) [.int .u8 5, .int .u8 3, .int .u8 3, .int .u16 9, .int .u32 1, .int .u64 T, .int .u32 ((done + 1 : Nat) : Int), .bool true, .str (rp ita (done + 1))]) = fms [⟨true, T, (done + 1 : Nat), rp ita (done + 1)⟩] := row1 ⟨true, T, (done + 1 : Nat), rp ita (done + 1)⟩
      rw [← hx] at hx1
      have G' : Good (rp ita) r T asked (done + 1) taken number over last bd at_ 5 3 3 9 1 T (done + 1 : Nat) true (rp ita (done + 1)) (L ++ [x]) := by
        refine ⟨by have := G.a1; omega, by omega, G.a3, G.ov, G.wt, G.nw, G.nt, fun _ => ⟨rfl, rfl, rfl, rfl, rfl, rfl, rfl, rfl, rfl⟩, fun y hy => ?_⟩
        rcases List.mem_append.1 hy with hy | hy
        · obtain ⟨y1, y2, y3⟩ := G.fl y hy
          exact ⟨y1, y2, fun h => by obtain ⟨i, i1, i2, i3⟩ := y3 h; exact ⟨i, i1, by omega, i3⟩⟩
        · obtain rfl := List.mem_singleton.1 hy
          rw [hx]
          exact ⟨⟨done + 1, rfl, by omega, by omega⟩, (fun h => nomatch h), fun _ => ⟨done + 1, rfl, Nat.le_refl _, rfl⟩⟩
      have hk := fun cap cs mk (h : In (L ++ [x]) cs cap) => hK (done + 1) 5 3 3 9 1 T (done + 1 : Nat) true (rp ita (done + 1)) (L ++ [x]) cap cs mk G' h (by simp)
      have hk2 := fun cap2 cs2 (h : In (L ++ [x]) cs2 cap2) => hK2 (done + 1) 5 3 3 9 1 T (done + 1 : Nat) true (rp ita (done + 1)) (L ++ [x]) cap2 cs2 G' h (by simp)
      have e1 : (L ++ [x]).length = n + 1 := by rw [hn]; simp
      rw [e1] at hk hk2
      have c1 : (((done + 1 : Nat) : Int) == (asked : Int)) = true := by rw [had]; simp
      have c2 : (s.data.toList == last.data.toList) = true := by rw [hsl]; simp
      rw [hw] at kr1
      clear hK hK2 G G'
      conv => whnf
      repeat' ((first | rw [hw] | ((with_reducible refine y'r ?_ ?_); (· decide +kernel)) | ((with_reducible refine y'g ?_ ?_); (· exact ⟨_, rfl⟩)) | (with_reducible first | refine y'b ‹_› ?_ | refine y'n ‹_› ?_ | refine y'1 ‹_› ?_ | refine y'2 ‹_› ?_ | refine y'3 ?_ | refine y'4 ?_) | ((with_reducible refine y'n ?_ ?_); (· first | with_reducible assumption | exact decide_eq_true (by omega) | exact mkOK_of (by decide) | decide +kernel | (refine decide_eq_true ?_; simp (disch := omega) only [i64w]; omega))) | (with_reducible first | refine y'n (y'7 ‹_› ‹_›) ?_ | refine y'v (y'8 ‹_› ‹_›) (fun s hs => ?_) | refine y'5 ‹_› ?_ | refine y'6 ‹_› ?_) | ((with_reducible refine y'p ?_ ?_); (· rfl)) | ((with_reducible refine y'q ?_ ?_); (· rfl)) | (with_reducible refine And.intro ?_ ?_) | (refine Fn.frame [] (by rfl) (by exact trivial) (by rfl) (kr1 ?_)) | (refine Fn.frame [2] (by rfl) (by exact ⟨rfl, trivial⟩) (by rfl) (replyO _ _ _ _ _ _ _ _ _ _ _ _ _ _ _ _ _ ?_)) | fail) <;> (conv => whnf))
      all_goals
        rw [hx1]
        refine y'c (fun hc => ?_) (fun hc => ?_)
        · have hc' := of_decide_eq_true hc
          conv => whnf
          refine y'n (decide_eq_true (by rw [s44, fms_length, hcl]; simp; omega)) ?_
          conv => whnf
          repeat' ((first | ((with_reducible refine y'r ?_ ?_); (· decide +kernel)) | ((with_reducible refine y'g ?_ ?_); (· exact ⟨_, rfl⟩)) | (with_reducible first | refine y'b ‹_› ?_ | refine y'n ‹_› ?_ | refine y'1 ‹_› ?_ | refine y'2 ‹_› ?_ | refine y'3 ?_ | refine y'4 ?_) | ((with_reducible refine y'n ?_ ?_); (· first | with_reducible assumption | exact decide_eq_true (by omega) | exact mkOK_of (by decide) | decide +kernel | (refine decide_eq_true ?_; simp (disch := omega) only [i64w]; omega))) | (with_reducible first | refine y'n (y'7 ‹_› ‹_›) ?_ | refine y'v (y'8 ‹_› ‹_›) (fun s hs => ?_) | refine y'5 ‹_› ?_ | refine y'6 ‹_› ?_) | ((with_reducible refine y'p ?_ ?_); (· rfl)) | ((with_reducible refine y'q ?_ ?_); (· rfl)) | fail) <;> (conv => whnf))
          refine y'f rfl (fun cs2 hcs2 => ?_)
          have hin2 : In (L ++ [x]) cs2 cap := by rw [hcs2]; exact hin.store (by rw [s44, hn]; omega) (by simp; omega)
          have hp2 := hin2.pl
          clear hcs2
          conv => whnf
          repeat' ((first | ((with_reducible refine y'r ?_ ?_); (· decide +kernel)) | ((with_reducible refine y'g ?_ ?_); (· exact ⟨_, rfl⟩)) | (with_reducible first | refine y'b ‹_› ?_ | refine y'n ‹_› ?_ | refine y'1 ‹_› ?_ | refine y'2 ‹_› ?_ | refine y'3 ?_ | refine y'4 ?_) | ((with_reducible refine y'n ?_ ?_); (· first | with_reducible assumption | exact decide_eq_true (by omega) | exact mkOK_of (by decide) | decide +kernel | (refine decide_eq_true ?_; simp (disch := omega) only [i64w]; omega))) | (with_reducible first | refine y'n (y'7 ‹_› ‹_›) ?_ | refine y'v (y'8 ‹_› ‹_›) (fun s hs => ?_) | refine y'5 ‹_› ?_ | refine y'6 ‹_› ?_) | ((with_reducible refine y'p ?_ ?_); (· rfl)) | ((with_reducible refine y'q ?_ ?_); (· rfl)) | (refine Fn.frame [] (by rfl) (by exact trivial) (by rfl) (kr ?_)) | fail) <;> (conv => whnf))
          exact keepOf (v₀ := .a (.bool true)) (HL T w r asked (done + 1 : Nat) taken number over last t bd at_ go se 5 3 3 9 1 T (done + 1 : Nat) true (rp ita (done + 1)) 3 (n + 1) cap [.cells cs2 44 mk]) [0, 1, 2, 3] (congrArg (fun b => V.a (.bool b)) c2) ⟨rfl, rfl, rfl, ren_pl hp2 _ _ _, trivial⟩ (by simp [nodupb, baseb, Ob.okb, frmOk, V.okb, A.okb, hp2.2] <;> decide) (hk cap cs2 mk hin2)
        · have hc' := of_decide_eq_false hc
          conv => whnf
          refine y'n (decide_eq_true (by rw [s44, b44, hcl]; omega)) ?_
          intro cap2 hcap2
          conv => whnf
          repeat' ((first | ((with_reducible refine y'r ?_ ?_); (· decide +kernel)) | ((with_reducible refine y'g ?_ ?_); (· exact ⟨_, rfl⟩)) | (with_reducible first | refine y'b ‹_› ?_ | refine y'n ‹_› ?_ | refine y'1 ‹_› ?_ | refine y'2 ‹_› ?_ | refine y'3 ?_ | refine y'4 ?_) | ((with_reducible refine y'n ?_ ?_); (· first | with_reducible assumption | exact decide_eq_true (by omega) | exact mkOK_of (by decide) | decide +kernel | (refine decide_eq_true ?_; simp (disch := omega) only [i64w]; omega))) | (with_reducible first | refine y'n (y'7 ‹_› ‹_›) ?_ | refine y'v (y'8 ‹_› ‹_›) (fun s hs => ?_) | refine y'5 ‹_› ?_ | refine y'6 ‹_› ?_) | ((with_reducible refine y'p ?_ ?_); (· rfl)) | ((with_reducible refine y'q ?_ ?_); (· rfl)) | fail) <;> (conv => whnf))
          refine y'f rfl (fun cs2 hcs2 => ?_)
          have hin2 : In (L ++ [x]) cs2 cap2 := by
            rw [hcs2]
            have := hin.new (M := [x]) (o := n * Tryd.prog.types[44].size) (c := cap2) (z := z9l) (by rw [s44, hn]) rfl (by simp; omega)
            rw [List.length_singleton, ← hn] at this
            exact this
          have hp2 := hin2.pl
          clear hcs2
          conv => whnf
          repeat' ((first | ((with_reducible refine y'r ?_ ?_); (· decide +kernel)) | ((with_reducible refine y'g ?_ ?_); (· exact ⟨_, rfl⟩)) | (with_reducible first | refine y'b ‹_› ?_ | refine y'n ‹_› ?_ | refine y'1 ‹_› ?_ | refine y'2 ‹_› ?_ | refine y'3 ?_ | refine y'4 ?_) | ((with_reducible refine y'n ?_ ?_); (· first | with_reducible assumption | exact decide_eq_true (by omega) | exact mkOK_of (by decide) | decide +kernel | (refine decide_eq_true ?_; simp (disch := omega) only [i64w]; omega))) | (with_reducible first | refine y'n (y'7 ‹_› ‹_›) ?_ | refine y'v (y'8 ‹_› ‹_›) (fun s hs => ?_) | refine y'5 ‹_› ?_ | refine y'6 ‹_› ?_) | ((with_reducible refine y'p ?_ ?_); (· rfl)) | ((with_reducible refine y'q ?_ ?_); (· rfl)) | (refine Fn.frame [] (by rfl) (by exact trivial) (by rfl) (kr ?_)) | fail) <;> (conv => whnf))
          exact keepOf (v₀ := .a (.bool true)) (HL T w r asked (done + 1 : Nat) taken number over last t bd at_ go se 5 3 3 9 1 T (done + 1 : Nat) true (rp ita (done + 1)) 4 (n + 1) cap2 [.cells cs 44 mk, .cells cs2 44 false]) [0, 1, 2, 3, 8] (congrArg (fun b => V.a (.bool b)) c2) ⟨rfl, rfl, rfl, ren_pl hp _ _ _, ren_pl hp2 _ _ _, trivial⟩ (by simp [nodupb, baseb, Ob.okb, frmOk, V.okb, A.okb, hp.2, hp2.2] <;> decide) (hk2 cap2 cs2 hin2)
end
end Go.Proofs.YtefimkcfaoabpaaDoor.TA
