import Derived.Test.YtefimkcfaoabpaaDoorVC
namespace Go.Proofs.YtefimkcfaoabpaaDoor.TA
open Go.Eng
set_option maxRecDepth 100000
section
variable {ro : Addr → A → Prop} {ita : Nat → ByteArray}
variable (T w r : Int) (asked done taken : Nat) (number : Int) (over : Bool) (last : ByteArray) (t : Int) (bd : ByteArray) (at_ go se : Int) (k0 k1 k2 k3 k4 k5 k6 : Int) (k7 : Bool) (k8 : ByteArray)
set_option maxHeartbeats 4000000 in
theorem evTick (hr1 : 1 ≤ r) (hr : r ≤ 100) (L : List Fm) (G : Good (rp ita) r T asked done taken number over last bd at_ k0 k1 k2 k3 k4 k5 k6 k7 k8 L) (n cap : Nat) (cs : List A) (mk : Bool) (hin : In L cs cap) (hn : n = L.length) (hn9 : n ≤ 90000) (ha9 : asked ≤ 4000) (i : Int) {K : V → Hp → Prop}
    (hK : ∀ (number : Int) (over : Bool) (at_ go se : Int) (L' : List Fm) (cap : Nat) (cs : List A) (mk : Bool), Good (rp ita) r T asked done taken number over last bd at_ k0 k1 k2 k3 k4 k5 k6 k7 k8 L' → In L' cs cap → L'.length ≤ L.length + 1 → K (.a (.bool true)) (HL T w r asked done taken number over last t bd at_ go se k0 k1 k2 k3 k4 k5 k6 k7 k8 3 L'.length cap [.cells cs 44 mk]))
    (hK2 : ∀ (number : Int) (over : Bool) (at_ go se : Int) (L' : List Fm) (cap2 : Nat) (cs2 : List A), Good (rp ita) r T asked done taken number over last bd at_ k0 k1 k2 k3 k4 k5 k6 k7 k8 L' → In L' cs2 cap2 → L'.length ≤ L.length + 1 → K (.a (.bool true)) (HL T w r asked done taken number over last t bd at_ go se k0 k1 k2 k3 k4 k5 k6 k7 k8 4 L'.length cap2 [.cells cs 44 mk, .cells cs2 44 false])) :
    Go.Eng.Fn Tryd.prog ro 7 [.a (.ptr 0 0), .g [.int .i64 2, .int .i64 i], .a (.int .i64 r)] (HL T w r asked done taken number over last t bd at_ go se k0 k1 k2 k3 k4 k5 k6 k7 k8 3 n cap [.cells cs 44 mk]) K := by
  have hp := hin.pl
  have hcl := hin.len
  have hle := hin.le
  have hda := G.a2
  have hta := G.a3
  have htd := G.a1
  refine Fn.weak ?_
  refine Fn.of 4 TT.h7 rfl Tryd.func7 rfl (Nat.le_of_ble_eq_true rfl) ?_
  conv => whnf
  repeat' ((first | ((with_reducible refine y'r ?_ ?_); (· decide +kernel)) | ((with_reducible refine y'g ?_ ?_); (· exact ⟨_, rfl⟩)) | (with_reducible first | refine y'b ‹_› ?_ | refine y'n ‹_› ?_ | refine y'1 ‹_› ?_ | refine y'2 ‹_› ?_ | refine y'3 ?_ | refine y'4 ?_) | ((with_reducible refine y'n ?_ ?_); (· first | with_reducible assumption | exact decide_eq_true (by omega) | exact mkOK_of (by decide) | decide +kernel | (refine decide_eq_true ?_; simp (disch := omega) only [i64w]; omega))) | (with_reducible first | refine y'n (y'7 ‹_› ‹_›) ?_ | refine y'v (y'8 ‹_› ‹_›) (fun s hs => ?_) | refine y'5 ‹_› ?_ | refine y'6 ‹_› ?_) | ((with_reducible refine y'p ?_ ?_); (· rfl)) | ((with_reducible refine y'q ?_ ?_); (· rfl)) | fail) <;> (conv => whnf))
  refine Fn.frame [1] (by rfl) (by exact ⟨rfl, trivial⟩) (by rfl) (tick18 _ _ _ _ _ _ _ _ _ _ _ _ _ _ (fun h1 => ?_) (fun h1 h2 => ?_) (fun h1 h2 x hx h3 => ?_) (fun h1 h2 x hx h3 h4 => ?_) (fun h1 h2 x hx h3 h4 y z hy hz => ?_))
  · subst h1
    have hk := hK number true at_ go se L cap cs mk G hin (by omega)
    rw [← hn] at hk
    clear hK hK2 G
    conv => whnf
    repeat' ((first | ((with_reducible refine y'r ?_ ?_); (· decide +kernel)) | ((with_reducible refine y'g ?_ ?_); (· exact ⟨_, rfl⟩)) | (with_reducible first | refine y'b ‹_› ?_ | refine y'n ‹_› ?_ | refine y'1 ‹_› ?_ | refine y'2 ‹_› ?_ | refine y'3 ?_ | refine y'4 ?_) | ((with_reducible refine y'n ?_ ?_); (· first | with_reducible assumption | exact decide_eq_true (by omega) | exact mkOK_of (by decide) | decide +kernel | (refine decide_eq_true ?_; simp (disch := omega) only [i64w]; omega))) | (with_reducible first | refine y'n (y'7 ‹_› ‹_›) ?_ | refine y'v (y'8 ‹_› ‹_›) (fun s hs => ?_) | refine y'5 ‹_› ?_ | refine y'6 ‹_› ?_) | ((with_reducible refine y'p ?_ ?_); (· rfl)) | ((with_reducible refine y'q ?_ ?_); (· rfl)) | fail) <;> (conv => whnf))
    exact keepOf (v₀ := .a (.bool true)) (HL T w r asked done taken number true last t bd at_ go se k0 k1 k2 k3 k4 k5 k6 k7 k8 3 n cap [.cells cs 44 mk]) [0, 1, 2, 3] rfl ⟨rfl, rfl, rfl, ren_pl hp _ _ _, trivial⟩ (by simp [nodupb, baseb, Ob.okb, frmOk, V.okb, A.okb, hp.2] <;> decide) hk
  · subst h1
    have c1 : decide (number ≤ r) = true := decide_eq_true G.nt
    have hk := hK number false at_ go se L cap cs mk G hin (by omega)
    rw [← hn] at hk
    clear hK hK2 G
    conv => whnf
    repeat' ((first | ((with_reducible refine y'r ?_ ?_); (· decide +kernel)) | ((with_reducible refine y'g ?_ ?_); (· exact ⟨_, rfl⟩)) | (with_reducible first | refine y'b ‹_› ?_ | refine y'n ‹_› ?_ | refine y'1 ‹_› ?_ | refine y'2 ‹_› ?_ | refine y'3 ?_ | refine y'4 ?_) | ((with_reducible refine y'n ?_ ?_); (· first | with_reducible assumption | exact decide_eq_true (by omega) | exact mkOK_of (by decide) | decide +kernel | (refine decide_eq_true ?_; simp (disch := omega) only [i64w]; omega))) | (with_reducible first | refine y'n (y'7 ‹_› ‹_›) ?_ | refine y'v (y'8 ‹_› ‹_›) (fun s hs => ?_) | refine y'5 ‹_› ?_ | refine y'6 ‹_› ?_) | ((with_reducible refine y'p ?_ ?_); (· rfl)) | ((with_reducible refine y'q ?_ ?_); (· rfl)) | fail) <;> (conv => whnf))
    exact keepOf (v₀ := .a (.bool true)) (HL T w r asked done taken number false last t bd at_ go se k0 k1 k2 k3 k4 k5 k6 k7 k8 3 n cap [.cells cs 44 mk]) [0, 1, 2, 3] rfl ⟨rfl, rfl, rfl, ren_pl hp _ _ _, trivial⟩ (by simp [nodupb, baseb, Ob.okb, frmOk, V.okb, A.okb, hp.2] <;> decide) hk
  · subst h1
    have c1 : decide (number ≤ r) = true := decide_eq_true G.nt
    have hk := hK number false at_ x se L cap cs mk G hin (by omega)
    rw [← hn] at hk
    clear hK hK2 G hx
    conv => whnf
    repeat' ((first | ((with_reducible refine y'r ?_ ?_); (· decide +kernel)) | ((with_reducible refine y'g ?_ ?_); (· exact ⟨_, rfl⟩)) | (with_reducible first | refine y'b ‹_› ?_ | refine y'n ‹_› ?_ | refine y'1 ‹_› ?_ | refine y'2 ‹_› ?_ | refine y'3 ?_ | refine y'4 ?_) | ((with_reducible refine y'n ?_ ?_); (· first | with_reducible assumption | exact decide_eq_true (by omega) | exact mkOK_of (by decide) | decide +kernel | (refine decide_eq_true ?_; simp (disch := omega) only [i64w]; omega))) | (with_reducible first | refine y'n (y'7 ‹_› ‹_›) ?_ | refine y'v (y'8 ‹_› ‹_›) (fun s hs => ?_) | refine y'5 ‹_› ?_ | refine y'6 ‹_› ?_) | ((with_reducible refine y'p ?_ ?_); (· rfl)) | ((with_reducible refine y'q ?_ ?_); (· rfl)) | fail) <;> (conv => whnf))
    exact keepOf (v₀ := .a (.bool true)) (HL T w r asked done taken number false last t bd at_ x se k0 k1 k2 k3 k4 k5 k6 k7 k8 3 n cap [.cells cs 44 mk]) [0, 1, 2, 3] rfl ⟨rfl, rfl, rfl, ren_pl hp _ _ _, trivial⟩ (by simp [nodupb, baseb, Ob.okb, frmOk, V.okb, A.okb, hp.2] <;> decide) hk
  · subst h1
    have hlt : taken < asked := by
      rcases Nat.lt_or_ge taken asked with h | h
      · exact h
      · exact absurd (G.nw rfl (by omega)) h2
    obtain ⟨hw1, hw2, hw3⟩ := G.wt rfl hlt
    have c1 : decide ((taken : Int) < (asked : Int)) = true := decide_eq_true (by omega)
    have c2 : (number == r) = true := by simp; omega
    have G' : Good (rp ita) r T asked done taken number true last bd 0 k0 k1 k2 k3 k4 k5 k6 k7 k8 L := ⟨G.a1, G.a2, G.a3, fun _ => rfl, (fun h => nomatch h), (fun h => nomatch h), G.nt, G.kp, G.fl⟩
    have hk := hK number true 0 x se L cap cs mk G' hin (by omega)
    rw [← hn] at hk
    clear hK hK2 G G' hx
    conv => whnf
    repeat' ((first | ((with_reducible refine y'r ?_ ?_); (· decide +kernel)) | ((with_reducible refine y'g ?_ ?_); (· exact ⟨_, rfl⟩)) | (with_reducible first | refine y'b ‹_› ?_ | refine y'n ‹_› ?_ | refine y'1 ‹_› ?_ | refine y'2 ‹_› ?_ | refine y'3 ?_ | refine y'4 ?_) | ((with_reducible refine y'n ?_ ?_); (· first | with_reducible assumption | exact decide_eq_true (by omega) | exact mkOK_of (by decide) | decide +kernel | (refine decide_eq_true ?_; simp (disch := omega) only [i64w]; omega))) | (with_reducible first | refine y'n (y'7 ‹_› ‹_›) ?_ | refine y'v (y'8 ‹_› ‹_›) (fun s hs => ?_) | refine y'5 ‹_› ?_ | refine y'6 ‹_› ?_) | ((with_reducible refine y'p ?_ ?_); (· rfl)) | ((with_reducible refine y'q ?_ ?_); (· rfl)) | fail) <;> (conv => whnf))
    exact keepOf (v₀ := .a (.bool true)) (HL T w r asked done taken number true last t bd 0 x se k0 k1 k2 k3 k4 k5 k6 k7 k8 3 n cap [.cells cs 44 mk]) [0, 1, 2, 3] rfl ⟨rfl, rfl, rfl, ren_pl hp _ _ _, trivial⟩ (by simp [nodupb, baseb, Ob.okb, frmOk, V.okb, A.okb, hp.2] <;> decide) hk
  · subst h1
    have hlt : taken < asked := by
      rcases Nat.lt_or_ge taken asked with h | h
      · exact h
      · exact absurd (G.nw rfl (by omega)) h2
    obtain ⟨hw1, hw2, hw3⟩ := G.wt rfl hlt
    have hnr := G.nt
    have hwn : IntKind.i64.wrap (number + 1) = number + 1 := i64w (by omega) (by omega)
    have hy1 : y = number + 1 := by rw [hy, hw1]; exact hwn
    subst hy1
    have c1 : decide ((taken : Int) < (asked : Int)) = true := decide_eq_true (by omega)
    have c3 : decide (number + 1 ≤ r) = true := decide_eq_true (by omega)
    have c2 : (bd.data.toList == last.data.toList) = true := by rw [hw3]; simp
    obtain ⟨x0, hx0⟩ : ∃ x : Fm, x = ⟨false, t, asked, bd⟩ := ⟨_, rfl⟩
    have hx1 : List.drop 0 (List.take (0 + 1 * Tryd.prog.types[44].size) [.int .u8 3, .int .u8 5, .int .u8 3, .int .u16 9, .int .u32 1, .int .u64 t, .int .u32 (asked : Int), .bool false, .str bd]) = fms [⟨false, t, asked, bd⟩] := row1 ⟨false, t, asked, bd⟩
    rw [← hx0] at hx1
    have G' : Good (rp ita) r T asked done taken (number + 1) false last bd (number + 1) k0 k1 k2 k3 k4 k5 k6 k7 k8 (L ++ [x0]) := by
      refine ⟨G.a1, G.a2, G.a3, (fun h => nomatch h), fun _ _ => ⟨rfl, by omega, hw3⟩, fun _ h => absurd h (by omega), by omega, G.kp, fun y hy => ?_⟩
      rcases List.mem_append.1 hy with hy | hy
      · exact G.fl y hy
      · obtain rfl := List.mem_singleton.1 hy
        rw [hx0]
        exact ⟨⟨asked, rfl, by omega, Nat.le_refl _⟩, fun _ _ => hw3, (fun h => nomatch h)⟩
    obtain ⟨x, hxx⟩ : ∃ x, x = x0 := ⟨_, rfl⟩
    rw [← hxx] at hx1 G'
    have hk := fun cap cs mk (h : In (L ++ [x]) cs cap) => hK (number + 1) false (number + 1) 0 z (L ++ [x]) cap cs mk G' h (by simp)
    have hk2 := fun cap2 cs2 (h : In (L ++ [x]) cs2 cap2) => hK2 (number + 1) false (number + 1) 0 z (L ++ [x]) cap2 cs2 G' h (by simp)
    have e1 : (L ++ [x]).length = n + 1 := by rw [hn]; simp
    rw [e1] at hk hk2
    clear hK hK2 G G' hz hy hx hw1 hw3
    conv => whnf
    repeat' ((first | rw [hwn] | ((with_reducible refine y'r ?_ ?_); (· decide +kernel)) | ((with_reducible refine y'g ?_ ?_); (· exact ⟨_, rfl⟩)) | (with_reducible first | refine y'b ‹_› ?_ | refine y'n ‹_› ?_ | refine y'1 ‹_› ?_ | refine y'2 ‹_› ?_ | refine y'3 ?_ | refine y'4 ?_) | ((with_reducible refine y'n ?_ ?_); (· first | with_reducible assumption | exact decide_eq_true (by omega) | exact mkOK_of (by decide) | decide +kernel | (refine decide_eq_true ?_; simp (disch := omega) only [i64w]; omega))) | (with_reducible first | refine y'n (y'7 ‹_› ‹_›) ?_ | refine y'v (y'8 ‹_› ‹_›) (fun s hs => ?_) | refine y'5 ‹_› ?_ | refine y'6 ‹_› ?_) | ((with_reducible refine y'p ?_ ?_); (· rfl)) | ((with_reducible refine y'q ?_ ?_); (· rfl)) | (with_reducible refine And.intro ?_ ?_) | fail) <;> (conv => whnf))
    all_goals
      rw [hx1]
      refine y'c (fun hc => ?_) (fun hc => ?_)
      ·
        skip
        have hc' := of_decide_eq_true hc
        conv => whnf
        refine y'n (decide_eq_true (by rw [s44, fms_length, hcl]; simp; omega)) ?_
        conv => whnf
        repeat' ((first | ((with_reducible refine y'r ?_ ?_); (· decide +kernel)) | ((with_reducible refine y'g ?_ ?_); (· exact ⟨_, rfl⟩)) | (with_reducible first | refine y'b ‹_› ?_ | refine y'n ‹_› ?_ | refine y'1 ‹_› ?_ | refine y'2 ‹_› ?_ | refine y'3 ?_ | refine y'4 ?_) | ((with_reducible refine y'n ?_ ?_); (· first | with_reducible assumption | exact decide_eq_true (by omega) | exact mkOK_of (by decide) | decide +kernel | (refine decide_eq_true ?_; simp (disch := omega) only [i64w]; omega))) | (with_reducible first | refine y'n (y'7 ‹_› ‹_›) ?_ | refine y'v (y'8 ‹_› ‹_›) (fun s hs => ?_) | refine y'5 ‹_› ?_ | refine y'6 ‹_› ?_) | ((with_reducible refine y'p ?_ ?_); (· rfl)) | ((with_reducible refine y'q ?_ ?_); (· rfl)) | fail) <;> (conv => whnf))
        refine y'f rfl (fun cs2 hcs2 => ?_)
        have hin2 : In (L ++ [x]) cs2 cap := by rw [hcs2]; exact hin.store (by rw [s44, hn]; omega) (by simp; omega)
        have hp2 := hin2.pl
        clear hcs2
        conv => whnf
        repeat' ((first | ((with_reducible refine y'r ?_ ?_); (· decide +kernel)) | ((with_reducible refine y'g ?_ ?_); (· exact ⟨_, rfl⟩)) | (with_reducible first | refine y'b ‹_› ?_ | refine y'n ‹_› ?_ | refine y'1 ‹_› ?_ | refine y'2 ‹_› ?_ | refine y'3 ?_ | refine y'4 ?_) | ((with_reducible refine y'n ?_ ?_); (· first | with_reducible assumption | exact decide_eq_true (by omega) | exact mkOK_of (by decide) | decide +kernel | (refine decide_eq_true ?_; simp (disch := omega) only [i64w]; omega))) | (with_reducible first | refine y'n (y'7 ‹_› ‹_›) ?_ | refine y'v (y'8 ‹_› ‹_›) (fun s hs => ?_) | refine y'5 ‹_› ?_ | refine y'6 ‹_› ?_) | ((with_reducible refine y'p ?_ ?_); (· rfl)) | ((with_reducible refine y'q ?_ ?_); (· rfl)) | fail) <;> (conv => whnf))
        exact keepOf (v₀ := .a (.bool true)) (HL T w r asked done taken (number + 1) false last t bd (number + 1) 0 z k0 k1 k2 k3 k4 k5 k6 k7 k8 3 (n + 1) cap [.cells cs2 44 mk]) [0, 1, 2, 3] (congrArg (fun b => V.a (.bool b)) c2) ⟨rfl, rfl, rfl, ren_pl hp2 _ _ _, trivial⟩ (by simp [nodupb, baseb, Ob.okb, frmOk, V.okb, A.okb, hp2.2] <;> decide) (hk cap cs2 mk hin2)
      ·
        skip
        have hc' := of_decide_eq_false hc
        conv => whnf
        refine y'n (decide_eq_true (by rw [s44, b44, hcl]; omega)) ?_
        intro cap2 hcap2
        conv => whnf
        repeat' ((first | ((with_reducible refine y'r ?_ ?_); (· decide +kernel)) | ((with_reducible refine y'g ?_ ?_); (· exact ⟨_, rfl⟩)) | (with_reducible first | refine y'b ‹_› ?_ | refine y'n ‹_› ?_ | refine y'1 ‹_› ?_ | refine y'2 ‹_› ?_ | refine y'3 ?_ | refine y'4 ?_) | ((with_reducible refine y'n ?_ ?_); (· first | with_reducible assumption | exact decide_eq_true (by omega) | exact mkOK_of (by decide) | decide +kernel | (refine decide_eq_true ?_; simp (disch := omega) only [i64w]; omega))) | (with_reducible first | refine y'n (y'7 ‹_› ‹_›) ?_ | refine y'v (y'8 ‹_› ‹_›) (fun s hs => ?_) | refine y'5 ‹_› ?_ | refine y'6 ‹_› ?_) | ((with_reducible refine y'p ?_ ?_); (· rfl)) | ((with_reducible refine y'q ?_ ?_); (· rfl)) | fail) <;> (conv => whnf))
        refine y'f rfl (fun cs2 hcs2 => ?_)
        have hin2 : In (L ++ [x]) cs2 cap2 := by
          rw [hcs2]
          have := hin.new (M := [x]) (o := n * Tryd.prog.types[44].size) (c := cap2) (z := z9l) (by rw [s44, hn]) rfl (by simp; omega)
          rw [List.length_singleton, ← hn] at this
          exact this
        have hp2 := hin2.pl
        clear hcs2
        conv => whnf
        repeat' ((first | ((with_reducible refine y'r ?_ ?_); (· decide +kernel)) | ((with_reducible refine y'g ?_ ?_); (· exact ⟨_, rfl⟩)) | (with_reducible first | refine y'b ‹_› ?_ | refine y'n ‹_› ?_ | refine y'1 ‹_› ?_ | refine y'2 ‹_› ?_ | refine y'3 ?_ | refine y'4 ?_) | ((with_reducible refine y'n ?_ ?_); (· first | with_reducible assumption | exact decide_eq_true (by omega) | exact mkOK_of (by decide) | decide +kernel | (refine decide_eq_true ?_; simp (disch := omega) only [i64w]; omega))) | (with_reducible first | refine y'n (y'7 ‹_› ‹_›) ?_ | refine y'v (y'8 ‹_› ‹_›) (fun s hs => ?_) | refine y'5 ‹_› ?_ | refine y'6 ‹_› ?_) | ((with_reducible refine y'p ?_ ?_); (· rfl)) | ((with_reducible refine y'q ?_ ?_); (· rfl)) | fail) <;> (conv => whnf))
        exact keepOf (v₀ := .a (.bool true)) (HL T w r asked done taken (number + 1) false last t bd (number + 1) 0 z k0 k1 k2 k3 k4 k5 k6 k7 k8 4 (n + 1) cap2 [.cells cs 44 mk, .cells cs2 44 false]) [0, 1, 2, 3, 7] (congrArg (fun b => V.a (.bool b)) c2) ⟨rfl, rfl, rfl, ren_pl hp _ _ _, ren_pl hp2 _ _ _, trivial⟩ (by simp [nodupb, baseb, Ob.okb, frmOk, V.okb, A.okb, hp.2, hp2.2] <;> decide) (hk2 cap2 cs2 hin2)
end
end Go.Proofs.YtefimkcfaoabpaaDoor.TA
