import Derived.Test.YtefimkcfaoabpaaDoorVE
namespace Go.Proofs.YtefimkcfaoabpaaDoor.TA
open Go.Eng
set_option maxRecDepth 100000
section
variable {ro : Addr → A → Prop} {ita : Nat → ByteArray}
variable (T w r : Int) (asked done taken : Nat) (number : Int) (over : Bool) (last : ByteArray) (t : Int) (bd : ByteArray) (at_ go se : Int) (k0 k1 k2 k3 k4 k5 k6 : Int) (k7 : Bool) (k8 : ByteArray)
set_option maxHeartbeats 1000000 in
theorem evCopy (L : List Fm) (n cap : Nat) (cs : List A) (mk : Bool) (hin : In L cs cap) (hn : n = L.length) (hn0 : 0 < n) (hn9 : n ≤ 90000) (i : Int) {K : V → Hp → Prop}
    (hK0 : K (.a (.bool true)) (HL T w r asked done taken number over last t bd at_ go se k0 k1 k2 k3 k4 k5 k6 k7 k8 3 n cap [.cells cs 44 mk]))
    (hK : ∀ (x : Fm) (cap : Nat) (cs : List A), x ∈ L → In (L ++ [x]) cs cap → K (.a (.bool true)) (HL T w r asked done taken number over last t bd at_ go se k0 k1 k2 k3 k4 k5 k6 k7 k8 3 (n + 1) cap [.cells cs 44 mk]))
    (hK2 : ∀ (x : Fm) (cap2 : Nat) (cs2 : List A), x ∈ L → In (L ++ [x]) cs2 cap2 → K (.a (.bool true)) (HL T w r asked done taken number over last t bd at_ go se k0 k1 k2 k3 k4 k5 k6 k7 k8 4 (n + 1) cap2 [.cells cs 44 mk, .cells cs2 44 false])) :
    Go.Eng.Fn Tryd.prog ro 7 [.a (.ptr 0 0), .g [.int .i64 5, .int .i64 i], .a (.int .i64 r)] (HL T w r asked done taken number over last t bd at_ go se k0 k1 k2 k3 k4 k5 k6 k7 k8 3 n cap [.cells cs 44 mk]) K := by
  have hp := hin.pl
  have hcl := hin.len
  have hle := hin.le
  obtain ⟨z9, hz9⟩ : ∃ z : List A, z = [.int .u8 0, .int .u8 0, .int .u8 0, .int .u16 0, .int .u32 0, .int .u64 0, .int .u32 0, .bool false, .str { data := #[] }] := ⟨_, rfl⟩
  have hzp : Pl z9 := by rw [hz9]; exact ⟨fun _ => rfl, fun _ => rfl⟩
  have hzl : z9.length = 9 := by rw [hz9]; rfl
  have hrz : repl z9 (1 * Tryd.prog.types[44].size) = z9 := by rw [hz9]; rfl
  obtain ⟨j, hjn, hj⟩ := modj i n hn0 (by omega)
  obtain ⟨x, hx⟩ : ∃ x, L[j]? = some x := ⟨_, List.getElem?_eq_getElem (by omega)⟩
  obtain ⟨xr, hxr⟩ : ∃ xr : List A, xr = x.row := ⟨_, rfl⟩
  have hr := hin.row hx (o := 0 + (j : Int).toNat * Tryd.prog.types[44].size) (m := 0 + (j : Int).toNat * Tryd.prog.types[44].size + Tryd.prog.types[44].size) (by rw [s44]; omega) (by rw [s44]; omega)
  rw [← hxr] at hr
  have hxp : Pl xr := by rw [hxr]; exact Pl.row x
  have hxl : xr.length = 9 := by rw [hxr]; rfl
  have d1 : decide (0 ≤ (j : Int) ∧ (j : Int) < (n : Int)) = true := decide_eq_true (by omega)
  have d2 : decide (0 + (j : Int).toNat * Tryd.prog.types[44].size + Tryd.prog.types[44].size ≤ cs.length) = true := decide_eq_true (by rw [s44, hcl]; omega)
  have d3 : ((n : Int) == 0) = false := by simp; omega
  have d4 : decide ((n : Int) ≠ 0) = true := decide_eq_true (by omega)
  refine Fn.weak ?_
  have hx1 : List.drop 0 (List.take (0 + 1 * Tryd.prog.types[44].size) xr) = xr := whole_of (by rw [hxl]; rfl)
  have hxm : x ∈ L := List.mem_of_getElem? hx
  have hxf := fms_one hxr
  refine Fn.of 4 TT.h7 rfl Tryd.func7 rfl (Nat.le_of_ble_eq_true rfl) ?_
  by_cases hn2 : n < 200
  · have d5 : decide ((n : Int) < 200) = true := decide_eq_true (by omega)
    conv => whnf
    repeat' ((first | rw [← hz9] | rw [hj] | rw [hrz] | ((with_reducible refine y'r ?_ ?_); (· decide +kernel)) | ((with_reducible refine y'g ?_ ?_); (· exact ⟨_, rfl⟩)) | (with_reducible first | refine y'b ‹_› ?_ | refine y'n ‹_› ?_ | refine y'1 ‹_› ?_ | refine y'2 ‹_› ?_ | refine y'3 ?_ | refine y'4 ?_) | ((with_reducible refine y'n ?_ ?_); (· first | with_reducible assumption | exact decide_eq_true (by omega) | exact mkOK_of (by decide) | decide +kernel | (refine decide_eq_true ?_; simp (disch := omega) only [i64w]; omega))) | (with_reducible first | refine y'n (y'7 ‹_› ‹_›) ?_ | refine y'v (y'8 ‹_› ‹_›) (fun s hs => ?_) | refine y'5 ‹_› ?_ | refine y'6 ‹_› ?_) | ((with_reducible refine y'p ?_ ?_); (· rfl)) | ((with_reducible refine y'q ?_ ?_); (· rfl)) | ((with_reducible refine y'n ?_ ?_); (· first | (rw [hxl, hzl]; rfl) | (rw [hxl]; rfl))) | ((with_reducible refine y't (store_all ?_) ?_); (· rw [hxl, hzl])) | ((with_reducible refine y't (whole_of ?_) ?_); (· rw [hxl]; rfl)) | (with_reducible refine y't hr ?_) | fail) <;> (conv => whnf))
    rw [hx1]
    refine y'c (fun hc => ?_) (fun hc => ?_)
    ·
      skip
      have hc' := of_decide_eq_true hc
      conv => whnf
      refine y'n (decide_eq_true (by rw [s44, hxl, hcl]; omega)) ?_
      conv => whnf
      repeat' ((first | rw [← hz9] | rw [hj] | rw [hrz] | ((with_reducible refine y'r ?_ ?_); (· decide +kernel)) | ((with_reducible refine y'g ?_ ?_); (· exact ⟨_, rfl⟩)) | (with_reducible first | refine y'b ‹_› ?_ | refine y'n ‹_› ?_ | refine y'1 ‹_› ?_ | refine y'2 ‹_› ?_ | refine y'3 ?_ | refine y'4 ?_) | ((with_reducible refine y'n ?_ ?_); (· first | with_reducible assumption | exact decide_eq_true (by omega) | exact mkOK_of (by decide) | decide +kernel | (refine decide_eq_true ?_; simp (disch := omega) only [i64w]; omega))) | (with_reducible first | refine y'n (y'7 ‹_› ‹_›) ?_ | refine y'v (y'8 ‹_› ‹_›) (fun s hs => ?_) | refine y'5 ‹_› ?_ | refine y'6 ‹_› ?_) | ((with_reducible refine y'p ?_ ?_); (· rfl)) | ((with_reducible refine y'q ?_ ?_); (· rfl)) | ((with_reducible refine y'n ?_ ?_); (· first | (rw [hxl, hzl]; rfl) | (rw [hxl]; rfl))) | ((with_reducible refine y't (store_all ?_) ?_); (· rw [hxl, hzl])) | ((with_reducible refine y't (whole_of ?_) ?_); (· rw [hxl]; rfl)) | (with_reducible refine y't hr ?_) | fail) <;> (conv => whnf))
      refine y'f rfl (fun cs2 hcs2 => ?_)
      have hin2 : In (L ++ [x]) cs2 cap := by rw [hcs2, hxf]; exact hin.store (by rw [s44, hn]; omega) (by simp; omega)
      have hp2 := hin2.pl
      clear hcs2
      conv => whnf
      repeat' ((first | rw [← hz9] | rw [hj] | rw [hrz] | ((with_reducible refine y'r ?_ ?_); (· decide +kernel)) | ((with_reducible refine y'g ?_ ?_); (· exact ⟨_, rfl⟩)) | (with_reducible first | refine y'b ‹_› ?_ | refine y'n ‹_› ?_ | refine y'1 ‹_› ?_ | refine y'2 ‹_› ?_ | refine y'3 ?_ | refine y'4 ?_) | ((with_reducible refine y'n ?_ ?_); (· first | with_reducible assumption | exact decide_eq_true (by omega) | exact mkOK_of (by decide) | decide +kernel | (refine decide_eq_true ?_; simp (disch := omega) only [i64w]; omega))) | (with_reducible first | refine y'n (y'7 ‹_› ‹_›) ?_ | refine y'v (y'8 ‹_› ‹_›) (fun s hs => ?_) | refine y'5 ‹_› ?_ | refine y'6 ‹_› ?_) | ((with_reducible refine y'p ?_ ?_); (· rfl)) | ((with_reducible refine y'q ?_ ?_); (· rfl)) | ((with_reducible refine y'n ?_ ?_); (· first | (rw [hxl, hzl]; rfl) | (rw [hxl]; rfl))) | ((with_reducible refine y't (store_all ?_) ?_); (· rw [hxl, hzl])) | ((with_reducible refine y't (whole_of ?_) ?_); (· rw [hxl]; rfl)) | (with_reducible refine y't hr ?_) | fail) <;> (conv => whnf))
      exact keepOf (v₀ := .a (.bool true)) (HL T w r asked done taken number over last t bd at_ go se k0 k1 k2 k3 k4 k5 k6 k7 k8 3 (n + 1) cap [.cells cs2 44 mk]) [0, 1, 2, 3] rfl ⟨rfl, rfl, rfl, ren_pl hp2 _ _ _, trivial⟩ (by simp [nodupb, baseb, Ob.okb, frmOk, V.okb, A.okb, hp2.2] <;> decide) (hK x cap cs2 hxm hin2)
    ·
      skip
      have hc' := of_decide_eq_false hc
      conv => whnf
      refine y'n (decide_eq_true (by rw [s44, b44, hcl]; omega)) ?_
      intro cap2 hcap2
      conv => whnf
      repeat' ((first | rw [← hz9] | rw [hj] | rw [hrz] | ((with_reducible refine y'r ?_ ?_); (· decide +kernel)) | ((with_reducible refine y'g ?_ ?_); (· exact ⟨_, rfl⟩)) | (with_reducible first | refine y'b ‹_› ?_ | refine y'n ‹_› ?_ | refine y'1 ‹_› ?_ | refine y'2 ‹_› ?_ | refine y'3 ?_ | refine y'4 ?_) | ((with_reducible refine y'n ?_ ?_); (· first | with_reducible assumption | exact decide_eq_true (by omega) | exact mkOK_of (by decide) | decide +kernel | (refine decide_eq_true ?_; simp (disch := omega) only [i64w]; omega))) | (with_reducible first | refine y'n (y'7 ‹_› ‹_›) ?_ | refine y'v (y'8 ‹_› ‹_›) (fun s hs => ?_) | refine y'5 ‹_› ?_ | refine y'6 ‹_› ?_) | ((with_reducible refine y'p ?_ ?_); (· rfl)) | ((with_reducible refine y'q ?_ ?_); (· rfl)) | ((with_reducible refine y'n ?_ ?_); (· first | (rw [hxl, hzl]; rfl) | (rw [hxl]; rfl))) | ((with_reducible refine y't (store_all ?_) ?_); (· rw [hxl, hzl])) | ((with_reducible refine y't (whole_of ?_) ?_); (· rw [hxl]; rfl)) | (with_reducible refine y't hr ?_) | fail) <;> (conv => whnf))
      refine y'f rfl (fun cs2 hcs2 => ?_)
      have hin2 : In (L ++ [x]) cs2 cap2 := by
        rw [hcs2, hxf]
        have := hin.new (M := [x]) (o := n * Tryd.prog.types[44].size) (c := cap2) (z := z9) (by rw [s44, hn]) hz9 (by simp; omega)
        rw [List.length_singleton, ← hn] at this
        exact this
      have hp2 := hin2.pl
      clear hcs2
      conv => whnf
      repeat' ((first | rw [← hz9] | rw [hj] | rw [hrz] | ((with_reducible refine y'r ?_ ?_); (· decide +kernel)) | ((with_reducible refine y'g ?_ ?_); (· exact ⟨_, rfl⟩)) | (with_reducible first | refine y'b ‹_› ?_ | refine y'n ‹_› ?_ | refine y'1 ‹_› ?_ | refine y'2 ‹_› ?_ | refine y'3 ?_ | refine y'4 ?_) | ((with_reducible refine y'n ?_ ?_); (· first | with_reducible assumption | exact decide_eq_true (by omega) | exact mkOK_of (by decide) | decide +kernel | (refine decide_eq_true ?_; simp (disch := omega) only [i64w]; omega))) | (with_reducible first | refine y'n (y'7 ‹_› ‹_›) ?_ | refine y'v (y'8 ‹_› ‹_›) (fun s hs => ?_) | refine y'5 ‹_› ?_ | refine y'6 ‹_› ?_) | ((with_reducible refine y'p ?_ ?_); (· rfl)) | ((with_reducible refine y'q ?_ ?_); (· rfl)) | ((with_reducible refine y'n ?_ ?_); (· first | (rw [hxl, hzl]; rfl) | (rw [hxl]; rfl))) | ((with_reducible refine y't (store_all ?_) ?_); (· rw [hxl, hzl])) | ((with_reducible refine y't (whole_of ?_) ?_); (· rw [hxl]; rfl)) | (with_reducible refine y't hr ?_) | fail) <;> (conv => whnf))
      exact keepOf (v₀ := .a (.bool true)) (HL T w r asked done taken number over last t bd at_ go se k0 k1 k2 k3 k4 k5 k6 k7 k8 4 (n + 1) cap2 [.cells cs 44 mk, .cells cs2 44 false]) [0, 1, 2, 3, 7] rfl ⟨rfl, rfl, rfl, ren_pl hp _ _ _, ren_pl hp2 _ _ _, trivial⟩ (by simp [nodupb, baseb, Ob.okb, frmOk, V.okb, A.okb, hp.2, hp2.2] <;> decide) (hK2 x cap2 cs2 hxm hin2)
  · have d5 : decide ((n : Int) < 200) = false := decide_eq_false (by omega)
    conv => whnf
    repeat' ((first | rw [← hz9] | rw [hj] | rw [hrz] | ((with_reducible refine y'r ?_ ?_); (· decide +kernel)) | ((with_reducible refine y'g ?_ ?_); (· exact ⟨_, rfl⟩)) | (with_reducible first | refine y'b ‹_› ?_ | refine y'n ‹_› ?_ | refine y'1 ‹_› ?_ | refine y'2 ‹_› ?_ | refine y'3 ?_ | refine y'4 ?_) | ((with_reducible refine y'n ?_ ?_); (· first | with_reducible assumption | exact decide_eq_true (by omega) | exact mkOK_of (by decide) | decide +kernel | (refine decide_eq_true ?_; simp (disch := omega) only [i64w]; omega))) | (with_reducible first | refine y'n (y'7 ‹_› ‹_›) ?_ | refine y'v (y'8 ‹_› ‹_›) (fun s hs => ?_) | refine y'5 ‹_› ?_ | refine y'6 ‹_› ?_) | ((with_reducible refine y'p ?_ ?_); (· rfl)) | ((with_reducible refine y'q ?_ ?_); (· rfl)) | ((with_reducible refine y'n ?_ ?_); (· first | (rw [hxl, hzl]; rfl) | (rw [hxl]; rfl))) | ((with_reducible refine y't (store_all ?_) ?_); (· rw [hxl, hzl])) | ((with_reducible refine y't (whole_of ?_) ?_); (· rw [hxl]; rfl)) | (with_reducible refine y't hr ?_) | fail) <;> (conv => whnf))
    exact keepOf (v₀ := .a (.bool true)) (HL T w r asked done taken number over last t bd at_ go se k0 k1 k2 k3 k4 k5 k6 k7 k8 3 n cap [.cells cs 44 mk]) [0, 1, 2, 3] rfl ⟨rfl, rfl, rfl, ren_pl hp _ _ _, trivial⟩ (by simp [nodupb, baseb, Ob.okb, frmOk, V.okb, A.okb, hp.2] <;> decide) hK0
end
end Go.Proofs.YtefimkcfaoabpaaDoor.TA
