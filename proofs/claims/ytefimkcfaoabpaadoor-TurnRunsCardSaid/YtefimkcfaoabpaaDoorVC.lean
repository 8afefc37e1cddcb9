import Derived.Test.YtefimkcfaoabpaaDoorVB
namespace Go.Proofs.YtefimkcfaoabpaaDoor.TA
open Go.Eng
set_option maxRecDepth 100000
theorem modj (x : Int) (n : Nat) (hn : 0 < n) (hb : n ≤ 100000) : ∃ j : Nat, j < n ∧ (IntKind.i64.wrap (x.tmod (n : Int) + (n : Int))).tmod (n : Int) = (j : Int) := by
  have hab : (x.tmod (n : Int)).natAbs < n := by rw [Int.natAbs_tmod]; exact Nat.mod_lt _ (by omega)
  have e : IntKind.i64.wrap (x.tmod n + n) = x.tmod n + n := i64w (by omega) (by omega)
  rw [e]
  have h3 : 0 ≤ (x.tmod n + n).tmod n := Int.tmod_nonneg _ (by omega)
  have h4 : (x.tmod n + n).tmod n < n := Int.tmod_lt_of_pos _ (by omega)
  exact ⟨((x.tmod n + n).tmod n).toNat, by omega, by omega⟩
@[irreducible] def rq (ita : Nat → ByteArray) (n : Nat) : ByteArray := ⟨#[114, 101, 113, 117, 101, 115, 116, 32]⟩ ++ ita n
section
variable {ro : Addr → A → Prop} {ita : Nat → ByteArray}
variable (T w r : Int) (asked done taken : Nat) (number : Int) (over : Bool) (last : ByteArray) (t : Int) (bd : ByteArray) (at_ go se : Int) (k0 k1 k2 k3 k4 k5 k6 : Int) (k7 : Bool) (k8 : ByteArray)
set_option maxHeartbeats 4000000 in
theorem evAsk (hI : Rep ro ita) (hr1 : 1 ≤ r) (hr : r ≤ 100) (L : List Fm) (G : Good (rp ita) r T asked done taken number over last bd at_ k0 k1 k2 k3 k4 k5 k6 k7 k8 L) (n cap : Nat) (cs : List A) (mk : Bool) (hin : In L cs cap) (hn : n = L.length) (hn9 : n ≤ 90000) (ha9 : asked ≤ 4000) (i : Int) (asked0 : Nat) (ha0 : asked ≤ asked0) {K : V → Hp → Prop}
    (hK : ∀ (asked : Nat) (number : Int) (last : ByteArray) (bd : ByteArray) (at_ go se : Int) (L' : List Fm) (cap : Nat) (cs : List A) (mk : Bool), Good (rp ita) r T asked done taken number over last bd at_ k0 k1 k2 k3 k4 k5 k6 k7 k8 L' → In L' cs cap → L'.length ≤ L.length + 1 → asked ≤ asked0 + 1 → K (.a (.bool true)) (HL T w r asked done taken number over last t bd at_ go se k0 k1 k2 k3 k4 k5 k6 k7 k8 3 L'.length cap [.cells cs 44 mk]))
    (hK2 : ∀ (asked : Nat) (number : Int) (last : ByteArray) (bd : ByteArray) (at_ go se : Int) (L' : List Fm) (cap2 : Nat) (cs2 : List A), Good (rp ita) r T asked done taken number over last bd at_ k0 k1 k2 k3 k4 k5 k6 k7 k8 L' → In L' cs2 cap2 → L'.length ≤ L.length + 1 → asked ≤ asked0 + 1 → K (.a (.bool true)) (HL T w r asked done taken number over last t bd at_ go se k0 k1 k2 k3 k4 k5 k6 k7 k8 4 L'.length cap2 [.cells cs 44 mk, .cells cs2 44 false])) :
    Go.Eng.Fn Tryd.prog ro 7 [.a (.ptr 0 0), .g [.int .i64 1, .int .i64 i], .a (.int .i64 r)] (HL T w r asked done taken number over last t bd at_ go se k0 k1 k2 k3 k4 k5 k6 k7 k8 3 n cap [.cells cs 44 mk]) K := by
  have hp := hin.pl
  have hcl := hin.len
  have hle := hin.le
  have hda := G.a2
  have hta := G.a3
  have htd := G.a1
  have hw : IntKind.i64.wrap ((asked : Int) + 1) = ((asked + 1 : Nat) : Int) := by rw [i64w (by omega) (by omega)]; rfl
  have hwu : IntKind.u32.wrap ((asked : Int) + 1) = ((asked + 1 : Nat) : Int) := by rw [wrap32 _ (by omega) (by omega)]; rfl
  have ki := @Rep.run ro ita hI (asked + 1) (by omega)
  have his := hI.few (asked + 1)
  obtain ⟨bo, hbo⟩ : ∃ b, b = rq ita (asked + 1) := ⟨_, rfl⟩
  have hbo2 := hbo
  unfold rq at hbo2
  refine Fn.weak ?_
  refine Fn.of 4 TT.h7 rfl Tryd.func7 rfl (Nat.le_of_ble_eq_true rfl) ?_
  conv => whnf
  repeat' ((first | rw [hw] | ((with_reducible refine y'r ?_ ?_); (· decide +kernel)) | ((with_reducible refine y'g ?_ ?_); (· exact ⟨_, rfl⟩)) | (with_reducible first | refine y'b ‹_› ?_ | refine y'n ‹_› ?_ | refine y'1 ‹_› ?_ | refine y'2 ‹_› ?_ | refine y'3 ?_ | refine y'4 ?_) | ((with_reducible refine y'n ?_ ?_); (· first | with_reducible assumption | exact decide_eq_true (by omega) | exact mkOK_of (by decide) | decide +kernel | (refine decide_eq_true ?_; simp (disch := omega) only [i64w]; omega))) | (with_reducible first | refine y'n (y'7 ‹_› ‹_›) ?_ | refine y'v (y'8 ‹_› ‹_›) (fun s hs => ?_) | refine y'5 ‹_› ?_ | refine y'6 ‹_› ?_) | ((with_reducible refine y'p ?_ ?_); (· rfl)) | ((with_reducible refine y'q ?_ ?_); (· rfl)) | (refine Fn.frame [] (by rfl) (by exact trivial) (by rfl) (ki ?_)) | fail) <;> (conv => whnf))
  refine y'n (decide_eq_true (by show 8 + _ ≤ _; omega)) ?_
  conv => whnf
  rw [← hbo2]
  clear hbo2 hbo
  conv => whnf
  repeat' ((first | ((with_reducible refine y'r ?_ ?_); (· decide +kernel)) | ((with_reducible refine y'g ?_ ?_); (· exact ⟨_, rfl⟩)) | (with_reducible first | refine y'b ‹_› ?_ | refine y'n ‹_› ?_ | refine y'1 ‹_› ?_ | refine y'2 ‹_› ?_ | refine y'3 ?_ | refine y'4 ?_) | ((with_reducible refine y'n ?_ ?_); (· first | with_reducible assumption | exact decide_eq_true (by omega) | exact mkOK_of (by decide) | decide +kernel | (refine decide_eq_true ?_; simp (disch := omega) only [i64w]; omega))) | (with_reducible first | refine y'n (y'7 ‹_› ‹_›) ?_ | refine y'v (y'8 ‹_› ‹_›) (fun s hs => ?_) | refine y'5 ‹_› ?_ | refine y'6 ‹_› ?_) | ((with_reducible refine y'p ?_ ?_); (· rfl)) | ((with_reducible refine y'q ?_ ?_); (· rfl)) | fail) <;> (conv => whnf))
  refine Fn.frame [1] (by rfl) (by exact ⟨rfl, trivial⟩) (by rfl) (ask16 _ _ _ _ _ _ _ _ _ _ _ _ _ _ _ (fun h1 => ?_) (fun h1 h2 => ?_) (fun h1 h2 h3 => absurd h3 (by omega)) (fun h1 h2 h3 z x y hz hx hy => ?_))
  · subst h1
    have hk := hK asked number last bd at_ go se L cap cs mk G hin (by omega) (by omega)
    rw [← hn] at hk
    clear hK hK2 G
    conv => whnf
    repeat' ((first | ((with_reducible refine y'r ?_ ?_); (· decide +kernel)) | ((with_reducible refine y'g ?_ ?_); (· exact ⟨_, rfl⟩)) | (with_reducible first | refine y'b ‹_› ?_ | refine y'n ‹_› ?_ | refine y'1 ‹_› ?_ | refine y'2 ‹_› ?_ | refine y'3 ?_ | refine y'4 ?_) | ((with_reducible refine y'n ?_ ?_); (· first | with_reducible assumption | exact decide_eq_true (by omega) | exact mkOK_of (by decide) | decide +kernel | (refine decide_eq_true ?_; simp (disch := omega) only [i64w]; omega))) | (with_reducible first | refine y'n (y'7 ‹_› ‹_›) ?_ | refine y'v (y'8 ‹_› ‹_›) (fun s hs => ?_) | refine y'5 ‹_› ?_ | refine y'6 ‹_› ?_) | ((with_reducible refine y'p ?_ ?_); (· rfl)) | ((with_reducible refine y'q ?_ ?_); (· rfl)) | fail) <;> (conv => whnf))
    exact keepOf (v₀ := .a (.bool true)) (HL T w r asked done taken number true last t bd at_ go se k0 k1 k2 k3 k4 k5 k6 k7 k8 3 n cap [.cells cs 44 mk]) [0, 1, 2, 3] rfl ⟨rfl, rfl, rfl, ren_pl hp _ _ _, trivial⟩ (by simp [nodupb, baseb, Ob.okb, frmOk, V.okb, A.okb, hp.2] <;> decide) hk
  · subst h1
    have hlt : taken < asked := by
      rcases Nat.lt_or_ge taken asked with h | h
      · exact h
      · exact absurd (G.nw rfl (by omega)) (by omega)
    have c1 : decide ((taken : Int) < (asked : Int)) = true := decide_eq_true (by omega)
    have hk := hK asked number last bd at_ go se L cap cs mk G hin (by omega) (by omega)
    rw [← hn] at hk
    clear hK hK2 G
    conv => whnf
    repeat' ((first | ((with_reducible refine y'r ?_ ?_); (· decide +kernel)) | ((with_reducible refine y'g ?_ ?_); (· exact ⟨_, rfl⟩)) | (with_reducible first | refine y'b ‹_› ?_ | refine y'n ‹_› ?_ | refine y'1 ‹_› ?_ | refine y'2 ‹_› ?_ | refine y'3 ?_ | refine y'4 ?_) | ((with_reducible refine y'n ?_ ?_); (· first | with_reducible assumption | exact decide_eq_true (by omega) | exact mkOK_of (by decide) | decide +kernel | (refine decide_eq_true ?_; simp (disch := omega) only [i64w]; omega))) | (with_reducible first | refine y'n (y'7 ‹_› ‹_›) ?_ | refine y'v (y'8 ‹_› ‹_›) (fun s hs => ?_) | refine y'5 ‹_› ?_ | refine y'6 ‹_› ?_) | ((with_reducible refine y'p ?_ ?_); (· rfl)) | ((with_reducible refine y'q ?_ ?_); (· rfl)) | fail) <;> (conv => whnf))
    exact keepOf (v₀ := .a (.bool true)) (HL T w r asked done taken number false last t bd at_ go se k0 k1 k2 k3 k4 k5 k6 k7 k8 3 n cap [.cells cs 44 mk]) [0, 1, 2, 3] rfl ⟨rfl, rfl, rfl, ren_pl hp _ _ _, trivial⟩ (by simp [nodupb, baseb, Ob.okb, frmOk, V.okb, A.okb, hp.2] <;> decide) hk
  · subst h1
    have hlt : ¬ taken < asked := fun h => by have := (G.wt rfl h); omega
    have c1 : decide ((taken : Int) < (asked : Int)) = false := decide_eq_false (by omega)
    obtain rfl : at_ = 0 := G.nw rfl (by omega)
    rw [hwu] at hz
    have hx1' : x = 1 := by rw [hx]; rfl
    subst hz hx1'
    clear hx h2 h3
    obtain ⟨x, hx⟩ : ∃ x : Fm, x = ⟨false, t, (asked + 1 : Nat), bo⟩ := ⟨_, rfl⟩
    have hx1 : List.drop 0 (List.take (0 + 1 * Tryd.prog.types[44].size) [.int .u8 3, .int .u8 5, .int .u8 3, .int .u16 9, .int .u32 1, .int .u64 t, .int .u32 ((asked + 1 : Nat) : Int), .bool false, .str bo]) = fms [⟨false, t, (asked + 1 : Nat), bo⟩] := row1 ⟨false, t, (asked + 1 : Nat), bo⟩
    rw [← hx] at hx1
    have G' : Good (rp ita) r T (asked + 1) done taken 1 false bo bo 1 k0 k1 k2 k3 k4 k5 k6 k7 k8 (L ++ [x]) := by
      refine ⟨G.a1, by omega, by omega, (fun h => nomatch h), fun _ _ => ⟨rfl, Int.le_refl _, rfl⟩, fun _ h => absurd h (by omega), hr1, G.kp, fun y hy => ?_⟩
      rcases List.mem_append.1 hy with hy | hy
      · obtain ⟨⟨i1, j1, j2, j3⟩, y2, y3⟩ := G.fl y hy
        exact ⟨⟨i1, j1, j2, by omega⟩, fun _ h => absurd (j1.symm.trans h) (by omega), y3⟩
      · obtain rfl := List.mem_singleton.1 hy
        rw [hx]
        exact ⟨⟨asked + 1, rfl, by omega, Nat.le_refl _⟩, fun _ _ => rfl, (fun h => nomatch h)⟩
    have hk := fun cap cs mk (h : In (L ++ [x]) cs cap) => hK (asked + 1) 1 bo bo 1 0 y (L ++ [x]) cap cs mk G' h (by simp) (by omega)
    have hk2 := fun cap2 cs2 (h : In (L ++ [x]) cs2 cap2) => hK2 (asked + 1) 1 bo bo 1 0 y (L ++ [x]) cap2 cs2 G' h (by simp) (by omega)
    have e1 : (L ++ [x]).length = n + 1 := by rw [hn]; simp
    rw [e1] at hk hk2
    have c2 : (bo.data.toList == bo.data.toList) = true := by simp
    clear hK hK2 G G' hy hwu ki hI
    conv => whnf
    repeat' ((first | rw [hw] | ((with_reducible refine y'r ?_ ?_); (· decide +kernel)) | ((with_reducible refine y'g ?_ ?_); (· exact ⟨_, rfl⟩)) | (with_reducible first | refine y'b ‹_› ?_ | refine y'n ‹_› ?_ | refine y'1 ‹_› ?_ | refine y'2 ‹_› ?_ | refine y'3 ?_ | refine y'4 ?_) | ((with_reducible refine y'n ?_ ?_); (· first | with_reducible assumption | exact decide_eq_true (by omega) | exact mkOK_of (by decide) | decide +kernel | (refine decide_eq_true ?_; simp (disch := omega) only [i64w]; omega))) | (with_reducible first | refine y'n (y'7 ‹_› ‹_›) ?_ | refine y'v (y'8 ‹_› ‹_›) (fun s hs => ?_) | refine y'5 ‹_› ?_ | refine y'6 ‹_› ?_) | ((with_reducible refine y'p ?_ ?_); (· rfl)) | ((with_reducible refine y'q ?_ ?_); (· rfl)) | (with_reducible refine And.intro ?_ ?_) | fail) <;> (conv => whnf))
    all_goals
      rw [hx1]
      refine y'c (fun hc => ?_) (fun hc => ?_)
      ·
        skip
        have hc' := of_decide_eq_true hc
        conv => whnf
        refine y'n (decide_eq_true (by rw [s44, fms_length, hcl]; simp; omega)) ?_
        conv => whnf
        repeat' ((first | ((with_reducible refine y'r ?_ ?_); (· decide +kernel)) | ((with_reducible refine y'g ?_ ?_); (· exact ⟨_, rfl⟩)) | (with_reducible first | refine y'b ‹_› ?_ | refine y'n ‹_› ?_ | refine y'1 ‹_› ?_ | refine y'2 ‹_› ?_ | refine y'3 ?_ | refine y'4 ?_) | ((with_reducible refine y'n ?_ ?_); (· first | with_reducible assumption | exact decide_eq_true (by omega) | exact mkOK_of (by decide) | decide +kernel | (refine decide_eq_true ?_; simp (disch := omega) only [i64w]; omega))) | (with_reducible first | refine y'n (y'7 ‹_› ‹_›) ?_ | refine y'v (y'8 ‹_› ‹_›) (fun s hs => ?_) | refine y'5 ‹_› ?_ | refine y'6 ‹_› ?_) | ((with_reducible refine y'p ?_ ?_); (· rfl)) | ((with_reducible refine y'q ?_ ?_); (· rfl)) | fail) <;> (conv => whnf))
        refine y'f rfl (fun cs2 hcs2 => ?_)
        have hin2 : In (L ++ [x]) cs2 cap := by rw [hcs2]; exact hin.store (by rw [s44, hn]; omega) (by simp; omega)
        have hp2 := hin2.pl
        clear hcs2
        conv => whnf
        repeat' ((first | ((with_reducible refine y'r ?_ ?_); (· decide +kernel)) | ((with_reducible refine y'g ?_ ?_); (· exact ⟨_, rfl⟩)) | (with_reducible first | refine y'b ‹_› ?_ | refine y'n ‹_› ?_ | refine y'1 ‹_› ?_ | refine y'2 ‹_› ?_ | refine y'3 ?_ | refine y'4 ?_) | ((with_reducible refine y'n ?_ ?_); (· first | with_reducible assumption | exact decide_eq_true (by omega) | exact mkOK_of (by decide) | decide +kernel | (refine decide_eq_true ?_; simp (disch := omega) only [i64w]; omega))) | (with_reducible first | refine y'n (y'7 ‹_› ‹_›) ?_ | refine y'v (y'8 ‹_› ‹_›) (fun s hs => ?_) | refine y'5 ‹_› ?_ | refine y'6 ‹_› ?_) | ((with_reducible refine y'p ?_ ?_); (· rfl)) | ((with_reducible refine y'q ?_ ?_); (· rfl)) | fail) <;> (conv => whnf))
        exact keepOf (v₀ := .a (.bool true)) (HL T w r (asked + 1 : Nat) done taken 1 false bo t bo 1 0 y k0 k1 k2 k3 k4 k5 k6 k7 k8 3 (n + 1) cap [.cells cs2 44 mk]) [0, 1, 2, 3] (congrArg (fun b => V.a (.bool b)) c2) ⟨rfl, rfl, rfl, ren_pl hp2 _ _ _, trivial⟩ (by simp [nodupb, baseb, Ob.okb, frmOk, V.okb, A.okb, hp2.2] <;> decide) (hk cap cs2 mk hin2)
      ·
        skip
        have hc' := of_decide_eq_false hc
        conv => whnf
        refine y'n (decide_eq_true (by rw [s44, b44, hcl]; omega)) ?_
        intro cap2 hcap2
        conv => whnf
        repeat' ((first | ((with_reducible refine y'r ?_ ?_); (· decide +kernel)) | ((with_reducible refine y'g ?_ ?_); (· exact ⟨_, rfl⟩)) | (with_reducible first | refine y'b ‹_› ?_ | refine y'n ‹_› ?_ | refine y'1 ‹_› ?_ | refine y'2 ‹_› ?_ | refine y'3 ?_ | refine y'4 ?_) | ((with_reducible refine y'n ?_ ?_); (· first | with_reducible assumption | exact decide_eq_true (by omega) | exact mkOK_of (by decide) | decide +kernel | (refine decide_eq_true ?_; simp (disch := omega) only [i64w]; omega))) | (with_reducible first | refine y'n (y'7 ‹_› ‹_›) ?_ | refine y'v (y'8 ‹_› ‹_›) (fun s hs => ?_) | refine y'5 ‹_› ?_ | refine y'6 ‹_› ?_) | ((with_reducible refine y'p ?_ ?_); (· rfl)) | ((with_reducible refine y'q ?_ ?_); (· rfl)) | fail) <;> (conv => whnf))
        refine y'f rfl (fun cs2 hcs2 => ?_)
        have hin2 : In (L ++ [x]) cs2 cap2 := by
          rw [hcs2]
          have := hin.new (M := [x]) (o := n * Tryd.prog.types[44].size) (c := cap2) (z := z9l) (by rw [s44, hn]) rfl (by simp; omega)
          rw [List.length_singleton, ← hn] at this
          exact this
        have hp2 := hin2.pl
        clear hcs2
        conv => whnf
        repeat' ((first | ((with_reducible refine y'r ?_ ?_); (· decide +kernel)) | ((with_reducible refine y'g ?_ ?_); (· exact ⟨_, rfl⟩)) | (with_reducible first | refine y'b ‹_› ?_ | refine y'n ‹_› ?_ | refine y'1 ‹_› ?_ | refine y'2 ‹_› ?_ | refine y'3 ?_ | refine y'4 ?_) | ((with_reducible refine y'n ?_ ?_); (· first | with_reducible assumption | exact decide_eq_true (by omega) | exact mkOK_of (by decide) | decide +kernel | (refine decide_eq_true ?_; simp (disch := omega) only [i64w]; omega))) | (with_reducible first | refine y'n (y'7 ‹_› ‹_›) ?_ | refine y'v (y'8 ‹_› ‹_›) (fun s hs => ?_) | refine y'5 ‹_› ?_ | refine y'6 ‹_› ?_) | ((with_reducible refine y'p ?_ ?_); (· rfl)) | ((with_reducible refine y'q ?_ ?_); (· rfl)) | fail) <;> (conv => whnf))
        exact keepOf (v₀ := .a (.bool true)) (HL T w r (asked + 1 : Nat) done taken 1 false bo t bo 1 0 y k0 k1 k2 k3 k4 k5 k6 k7 k8 4 (n + 1) cap2 [.cells cs 44 mk, .cells cs2 44 false]) [0, 1, 2, 3, 7] (congrArg (fun b => V.a (.bool b)) c2) ⟨rfl, rfl, rfl, ren_pl hp _ _ _, ren_pl hp2 _ _ _, trivial⟩ (by simp [nodupb, baseb, Ob.okb, frmOk, V.okb, A.okb, hp.2, hp2.2] <;> decide) (hk2 cap2 cs2 hin2)
end
end Go.Proofs.YtefimkcfaoabpaaDoor.TA
