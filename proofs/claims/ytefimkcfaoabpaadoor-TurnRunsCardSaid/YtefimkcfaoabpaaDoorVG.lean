import Derived.Test.YtefimkcfaoabpaaDoorVF
namespace Go.Proofs.YtefimkcfaoabpaaDoor.TA
open Go.Eng
set_option maxRecDepth 100000
section
variable {ro : Addr → A → Prop} {ita : Nat → ByteArray}
variable (T w r : Int) (asked done taken : Nat) (number : Int) (over : Bool) (last : ByteArray) (t : Int) (bd : ByteArray) (at_ go se : Int) (k0 k1 k2 k3 k4 k5 k6 : Int) (k7 : Bool) (k8 : ByteArray)
theorem Good.sub {rp : Nat → ByteArray} {tries T : Int} {asked done taken : Nat} {number : Int} {over : Bool} {last bd : ByteArray} {at_ k0 k1 k2 k3 k4 k5 k6 : Int} {k7 : Bool} {k8 : ByteArray} {L L' : List Fm} (G : Good rp tries T asked done taken number over last bd at_ k0 k1 k2 k3 k4 k5 k6 k7 k8 L) (h : ∀ y ∈ L', y ∈ L) : Good rp tries T asked done taken number over last bd at_ k0 k1 k2 k3 k4 k5 k6 k7 k8 L' :=
  ⟨G.a1, G.a2, G.a3, G.ov, G.wt, G.nw, G.nt, G.kp, fun y hy => G.fl y (h y hy)⟩
set_option maxHeartbeats 4000000 in
theorem evLeave (L : List Fm) (n cap : Nat) (cs : List A) (mk : Bool) (hin : In L cs cap) (hn : n = L.length) (hn0 : 0 < n) (hn9 : n ≤ 90000) (ha9 : asked ≤ 4000) (hI : Rep ro ita) (G : Good (rp ita) r T asked done taken number over last bd at_ k0 k1 k2 k3 k4 k5 k6 k7 k8 L) (kd i : Int) (hkd : kd = 3 ∨ kd = 4) {K : V → Hp → Prop}
    (hK : ∀ (done taken : Nat) (t at_ : Int) (k0 k1 k2 k3 k4 k5 k6 : Int) (k7 : Bool) (k8 : ByteArray) (L' : List Fm) (cap2 : Nat) (cs2 : List A) (mk2 : Bool), Good (rp ita) r T asked done taken number over last bd at_ k0 k1 k2 k3 k4 k5 k6 k7 k8 L' → In L' cs2 cap2 → L'.length ≤ L.length + 1 → K (.a (.bool true)) (HL T w r asked done taken number over last t bd at_ go se k0 k1 k2 k3 k4 k5 k6 k7 k8 4 L'.length cap2 [.cells cs 44 mk, .cells cs2 44 mk2])) :
    Go.Eng.Fn Tryd.prog ro 7 [.a (.ptr 0 0), .g [.int .i64 kd, .int .i64 i], .a (.int .i64 r)] (HL T w r asked done taken number over last t bd at_ go se k0 k1 k2 k3 k4 k5 k6 k7 k8 3 n cap [.cells cs 44 mk]) K := by
  have hp := hin.pl
  have hcl := hin.len
  have hle := hin.le
  obtain ⟨z9, hz9⟩ : ∃ z : List A, z = [.int .u8 0, .int .u8 0, .int .u8 0, .int .u16 0, .int .u32 0, .int .u64 0, .int .u32 0, .bool false, .str { data := #[] }] := ⟨_, rfl⟩
  have hzp : Pl z9 := by rw [hz9]; exact ⟨fun _ => rfl, fun _ => rfl⟩
  have hzl : z9.length = 9 := by rw [hz9]; rfl
  have hrz : repl z9 (1 * Tryd.prog.types[44].size) = z9 := by rw [hz9]; rfl
  obtain ⟨j, hjn, hj⟩ := modj i n hn0 (by omega)
  obtain ⟨x, hx⟩ : ∃ x, L[j]? = some x := ⟨_, List.getElem?_eq_getElem (by omega)⟩
  obtain ⟨xr, hxr⟩ : ∃ xr : List A, xr = x.row := ⟨_, rfl⟩
  have hr := hin.row hx (o := 0 + (j : Int).toNat * Tryd.prog.types[44].size) (m := 0 + (j : Int).toNat * Tryd.prog.types[44].size + Tryd.prog.types[44].size) (by rw [s44]; omega) (by rw [s44]; omega)
  rw [← hxr] at hr
  have hxp : Pl xr := by rw [hxr]; exact Pl.row x
  have hxl : xr.length = 9 := by rw [hxr]; rfl
  have d1 : decide (0 ≤ (j : Int) ∧ (j : Int) < (n : Int)) = true := decide_eq_true (by omega)
  have d2 : decide (0 + (j : Int).toNat * Tryd.prog.types[44].size + Tryd.prog.types[44].size ≤ cs.length) = true := decide_eq_true (by rw [s44, hcl]; omega)
  have d3 : ((n : Int) == 0) = false := by simp; omega
  have d4 : decide ((n : Int) ≠ 0) = true := decide_eq_true (by omega)
  refine Fn.weak ?_
  have hxm : x ∈ L := List.mem_of_getElem? hx
  have e9 : (if cap = 0 then 0 else 0 + 0 * Tryd.prog.types[44].size) = 0 := by split <;> simp
  have hwj : IntKind.i64.wrap ((j : Int) + 1) = ((j + 1 : Nat) : Int) := by rw [i64w (by omega) (by omega)]; rfl
  have d5 : decide (0 ≤ (j : Int) ∧ (j : Int) ≤ (cap : Int)) = true := decide_eq_true (by omega)
  have d6 : decide (0 ≤ ((j + 1 : Nat) : Int) ∧ ((j + 1 : Nat) : Int) ≤ (n : Int)) = true := decide_eq_true (by omega)
  obtain ⟨off, hoff⟩ : ∃ off, off = (if cap = j + 1 then 0 else 0 + (j + 1) * Tryd.prog.types[44].size) := ⟨_, rfl⟩
  have hpart : off + (n - (j + 1)) * Tryd.prog.types[44].size ≤ cs.length ∧ List.drop off (List.take (off + (n - (j + 1)) * Tryd.prog.types[44].size) cs) = fms (L.drop (j + 1)) := by
    rw [s44] at hoff ⊢
    by_cases hca : cap = j + 1
    · rw [if_pos hca] at hoff
      rw [hoff, show n - (j + 1) = 0 by omega]
      refine ⟨by omega, ?_⟩
      rw [show L.drop (j + 1) = [] from List.drop_eq_nil_of_le (by omega), fms_nil]
      simp
    · rw [if_neg hca] at hoff
      rw [hoff]
      refine ⟨by rw [hcl]; omega, ?_⟩
      rw [hin.part (i := j + 1) (n := n - (j + 1)) (by omega) (by omega) (by omega)]
      rw [List.take_of_length_le (by rw [List.length_drop]; omega)]
  obtain ⟨nw, hnw⟩ : ∃ nw, nw = List.drop off (List.take (off + (n - (j + 1)) * Tryd.prog.types[44].size) cs) := ⟨_, rfl⟩
  have hnw2 := hnw.trans hpart.2
  have hnwl : nw.length = (n - (j + 1)) * 9 := by rw [hnw2, fms_length, List.length_drop]; omega
  have dk : decide (off + (n - (j + 1)) * Tryd.prog.types[44].size ≤ cs.length) = true := decide_eq_true hpart.1
  have hnwp := Pl.fms hnw2
  have c1 : (kd == 1) = false := by simp; omega
  have c2 : (kd == 2) = false := by simp; omega
  refine Fn.of 4 (cutAt [33, 34, 35] TT.h7) rfl Tryd.func7 rfl (Nat.le_of_ble_eq_true rfl) ?_
  rcases hkd with h3 | h3
  case' inl =>
    have c3 : (kd == 3) = true := by simp; omega
    have c4 : (kd == 4) = false := by simp; omega
  case' inr =>
    have c3 : (kd == 3) = false := by simp; omega
    have c4 : (kd == 4) = true := by simp; omega
  all_goals
    skip
    conv => whnf
    repeat' ((first | rw [e9] | rw [hwj] | rw [← hz9] | rw [hj] | rw [hrz] | ((with_reducible refine y'r ?_ ?_); (· decide +kernel)) | ((with_reducible refine y'g ?_ ?_); (· exact ⟨_, rfl⟩)) | (with_reducible first | refine y'b ‹_› ?_ | refine y'n ‹_› ?_ | refine y'1 ‹_› ?_ | refine y'2 ‹_› ?_ | refine y'3 ?_ | refine y'4 ?_) | ((with_reducible refine y'n ?_ ?_); (· first | with_reducible assumption | exact decide_eq_true (by omega) | exact mkOK_of (by decide) | decide +kernel | (refine decide_eq_true ?_; simp (disch := omega) only [i64w]; omega))) | (with_reducible first | refine y'n (y'7 ‹_› ‹_›) ?_ | refine y'v (y'8 ‹_› ‹_›) (fun s hs => ?_) | refine y'5 ‹_› ?_ | refine y'6 ‹_› ?_) | ((with_reducible refine y'p ?_ ?_); (· rfl)) | ((with_reducible refine y'q ?_ ?_); (· rfl)) | ((with_reducible refine y'n ?_ ?_); (· first | (rw [hxl, hzl]; rfl) | (rw [hxl]; rfl))) | ((with_reducible refine y't (store_all ?_) ?_); (· rw [hxl, hzl])) | ((with_reducible refine y't (whole_of ?_) ?_); (· rw [hxl]; rfl)) | (with_reducible refine y't hr ?_) | fail) <;> (conv => whnf))
    refine cutx_of (fun F H => ∃ gr : List A, In [] gr 0 ∧ F = [(0, .a (.ptr 0 0)), (4, .a (.ptr 4 0)), (13, .a (.int .i64 (j : Int))), (14, .a (.ptr 5 0)), (15, .a (.slc 6 0 0 0))] ∧ H = (HL T w r asked done taken number over last t bd at_ go se k0 k1 k2 k3 k4 k5 k6 k7 k8 3 n cap [.cells cs 44 mk, .cells [.int .i64 kd, .int .i64 i] 41 false, .cells xr 44 false, .cells gr 44 false])) ?_ ?_
    · refine Into.ghost 6 [(0, .a (.ptr 0 0)), (4, .a (.ptr 4 0)), (13, .a (.int .i64 (j : Int))), (14, .a (.ptr 5 0)), (15, .a (.slc 6 0 0 0))] (HL T w r asked done taken number over last t bd at_ go se k0 k1 k2 k3 k4 k5 k6 k7 k8 3 n cap [.cells cs 44 mk, .cells [.int .i64 kd, .int .i64 i] 41 false, .cells xr 44 false, .cells [] 44 false]) rfl ⟨rfl, rfl, rfl, rfl, rfl, trivial⟩ ⟨rfl, rfl, rfl, ung_pl hp.1 _ _ _, rfl, ung_pl hxp.1 _ _ _, rfl, trivial⟩ (by simp [Ob.okb, frmOk, V.okb, A.okb, hp.2, hxp.2] <;> decide) ?_
      exact Into.weak [0, 1, 2, 3, 4, 5, 6] _ (HL T w r asked done taken number over last t bd at_ go se k0 k1 k2 k3 k4 k5 k6 k7 k8 3 n cap [.cells cs 44 mk, .cells [.int .i64 kd, .int .i64 i] 41 false, .cells xr 44 false, .cells [] 44 false]) ⟨[], In.nil, rfl, rfl⟩ ⟨rfl, rfl, rfl, rfl, rfl, trivial⟩ ⟨rfl, rfl, rfl, ren_pl hp _ _ _, rfl, ren_pl hxp _ _ _, rfl, trivial⟩ (by simp [nodupb, baseb, Ob.okb, frmOk, V.okb, A.okb, hp.2, hxp.2] <;> decide)
    rintro F H ⟨gr, hgr, rfl, rfl⟩
    have hgp := hgr.pl
    have hgl := hgr.len
    skip
    conv => whnf
    repeat' ((first | rw [e9] | rw [hwj] | rw [← hz9] | rw [hj] | rw [hrz] | ((with_reducible refine y'r ?_ ?_); (· decide +kernel)) | ((with_reducible refine y'g ?_ ?_); (· exact ⟨_, rfl⟩)) | (with_reducible first | refine y'b ‹_› ?_ | refine y'n ‹_› ?_ | refine y'1 ‹_› ?_ | refine y'2 ‹_› ?_ | refine y'3 ?_ | refine y'4 ?_) | ((with_reducible refine y'n ?_ ?_); (· first | with_reducible assumption | exact decide_eq_true (by omega) | exact mkOK_of (by decide) | decide +kernel | (refine decide_eq_true ?_; simp (disch := omega) only [i64w]; omega))) | (with_reducible first | refine y'n (y'7 ‹_› ‹_›) ?_ | refine y'v (y'8 ‹_› ‹_›) (fun s hs => ?_) | refine y'5 ‹_› ?_ | refine y'6 ‹_› ?_) | ((with_reducible refine y'p ?_ ?_); (· rfl)) | ((with_reducible refine y'q ?_ ?_); (· rfl)) | ((with_reducible refine y'n ?_ ?_); (· first | (rw [hxl, hzl]; rfl) | (rw [hxl]; rfl))) | ((with_reducible refine y't (store_all ?_) ?_); (· rw [hxl, hzl])) | ((with_reducible refine y't (whole_of ?_) ?_); (· rw [hxl]; rfl)) | (with_reducible refine y't hr ?_) | fail) <;> (conv => whnf))
    have hjm : (j : Int).toNat - 0 = j := rfl
    rw [hjm]
    refine y'n (decide_eq_true (by rw [s44, hcl]; omega)) ?_
    obtain ⟨nv, hnv⟩ : ∃ nv, nv = List.drop 0 (List.take (0 + j * Tryd.prog.types[44].size) cs) := ⟨_, rfl⟩
    have hnv2 : nv = fms (L.take j) := hnv.trans (hin.part (i := 0) (n := j) (by omega) (by omega) (by rw [s44]; omega))
    have hnvl : nv.length = j * 9 := by rw [hnv2, fms_length, List.length_take]; omega
    conv => whnf
    rw [← hnv]
    clear hnv
    refine y'c (fun hc => ?_) (fun hc => ?_)
    case' refine_1 =>
      have hc' := of_decide_eq_true hc
      conv => whnf
      refine y'n (decide_eq_true (by rw [s44, hnvl, hgl]; omega)) ?_
      skip
      conv => whnf
      repeat' ((first | rw [e9] | rw [hwj] | rw [← hz9] | rw [hj] | rw [hrz] | ((with_reducible refine y'r ?_ ?_); (· decide +kernel)) | ((with_reducible refine y'g ?_ ?_); (· exact ⟨_, rfl⟩)) | (with_reducible first | refine y'b ‹_› ?_ | refine y'n ‹_› ?_ | refine y'1 ‹_› ?_ | refine y'2 ‹_› ?_ | refine y'3 ?_ | refine y'4 ?_) | ((with_reducible refine y'n ?_ ?_); (· first | with_reducible assumption | exact decide_eq_true (by omega) | exact mkOK_of (by decide) | decide +kernel | (refine decide_eq_true ?_; simp (disch := omega) only [i64w]; omega))) | (with_reducible first | refine y'n (y'7 ‹_› ‹_›) ?_ | refine y'v (y'8 ‹_› ‹_›) (fun s hs => ?_) | refine y'5 ‹_› ?_ | refine y'6 ‹_› ?_) | ((with_reducible refine y'p ?_ ?_); (· rfl)) | ((with_reducible refine y'q ?_ ?_); (· rfl)) | ((with_reducible refine y'n ?_ ?_); (· first | (rw [hxl, hzl]; rfl) | (rw [hxl]; rfl))) | ((with_reducible refine y't (store_all ?_) ?_); (· rw [hxl, hzl])) | ((with_reducible refine y't (whole_of ?_) ?_); (· rw [hxl]; rfl)) | (with_reducible refine y't hr ?_) | fail) <;> (conv => whnf))
      refine y'f rfl (fun cs2 hcs2 => ?_)
      have hin2 : In (L.take j) cs2 0 := by rw [hcs2, hnv2]; exact hgr.store (by rw [s44]; rfl) (by simp; omega)
      have hp2 := hin2.pl
      clear hcs2
      skip
      conv => whnf
      repeat' ((first | rw [e9] | rw [hwj] | rw [← hz9] | rw [hj] | rw [hrz] | ((with_reducible refine y'r ?_ ?_); (· decide +kernel)) | ((with_reducible refine y'g ?_ ?_); (· exact ⟨_, rfl⟩)) | (with_reducible first | refine y'b ‹_› ?_ | refine y'n ‹_› ?_ | refine y'1 ‹_› ?_ | refine y'2 ‹_› ?_ | refine y'3 ?_ | refine y'4 ?_) | ((with_reducible refine y'n ?_ ?_); (· first | with_reducible assumption | exact decide_eq_true (by omega) | exact mkOK_of (by decide) | decide +kernel | (refine decide_eq_true ?_; simp (disch := omega) only [i64w]; omega))) | (with_reducible first | refine y'n (y'7 ‹_› ‹_›) ?_ | refine y'v (y'8 ‹_› ‹_›) (fun s hs => ?_) | refine y'5 ‹_› ?_ | refine y'6 ‹_› ?_) | ((with_reducible refine y'p ?_ ?_); (· rfl)) | ((with_reducible refine y'q ?_ ?_); (· rfl)) | ((with_reducible refine y'n ?_ ?_); (· first | (rw [hxl, hzl]; rfl) | (rw [hxl]; rfl))) | ((with_reducible refine y't (store_all ?_) ?_); (· rw [hxl, hzl])) | ((with_reducible refine y't (whole_of ?_) ?_); (· rw [hxl]; rfl)) | (with_reducible refine y't hr ?_) | fail) <;> (conv => whnf))
      refine cutx_of (fun F H => ∃ (q c1 : Nat) (xs : List A), In (L.take j) xs c1 ∧ q = j ∧ F = [(0, .a (.ptr 0 0)), (4, .a (.ptr 4 0)), (13, .a (.int .i64 (j : Int))), (14, .a (.ptr 5 0)), (15, .a (.slc 6 0 q c1))] ∧ H = (HL T w r asked done taken number over last t bd at_ go se k0 k1 k2 k3 k4 k5 k6 k7 k8 3 n cap [.cells cs 44 mk, .cells [.int .i64 kd, .int .i64 i] 41 false, .cells xr 44 false, .cells xs 44 false])) (Into.weak [0, 1, 2, 3, 4, 5, 6] [(0, .a (.ptr 0 0)), (4, .a (.ptr 4 0)), (13, .a (.int .i64 (j : Int))), (14, .a (.ptr 5 0)), (15, .a (.slc 6 0 (0 + j) 0))] (HL T w r asked done taken number over last t bd at_ go se k0 k1 k2 k3 k4 k5 k6 k7 k8 3 n cap [.cells cs 44 mk, .cells [.int .i64 kd, .int .i64 i] 41 false, .cells xr 44 false, .cells cs2 44 false]) ⟨_, _, cs2, hin2, Nat.zero_add j, rfl, rfl⟩ ⟨rfl, rfl, rfl, rfl, rfl, trivial⟩ ⟨rfl, rfl, rfl, ren_pl hp _ _ _, rfl, ren_pl hxp _ _ _, ren_pl hp2 _ _ _, trivial⟩ (by simp [nodupb, baseb, Ob.okb, frmOk, V.okb, A.okb, hp.2, hxp.2, hp2.2] <;> decide)) ?_
    case' refine_2 =>
      have hc' := of_decide_eq_false hc
      conv => whnf
      refine y'n (decide_eq_true (by rw [s44, b44, hgl]; omega)) ?_
      intro cap2 hcap2
      skip
      conv => whnf
      repeat' ((first | rw [e9] | rw [hwj] | rw [← hz9] | rw [hj] | rw [hrz] | ((with_reducible refine y'r ?_ ?_); (· decide +kernel)) | ((with_reducible refine y'g ?_ ?_); (· exact ⟨_, rfl⟩)) | (with_reducible first | refine y'b ‹_› ?_ | refine y'n ‹_› ?_ | refine y'1 ‹_› ?_ | refine y'2 ‹_› ?_ | refine y'3 ?_ | refine y'4 ?_) | ((with_reducible refine y'n ?_ ?_); (· first | with_reducible assumption | exact decide_eq_true (by omega) | exact mkOK_of (by decide) | decide +kernel | (refine decide_eq_true ?_; simp (disch := omega) only [i64w]; omega))) | (with_reducible first | refine y'n (y'7 ‹_› ‹_›) ?_ | refine y'v (y'8 ‹_› ‹_›) (fun s hs => ?_) | refine y'5 ‹_› ?_ | refine y'6 ‹_› ?_) | ((with_reducible refine y'p ?_ ?_); (· rfl)) | ((with_reducible refine y'q ?_ ?_); (· rfl)) | ((with_reducible refine y'n ?_ ?_); (· first | (rw [hxl, hzl]; rfl) | (rw [hxl]; rfl))) | ((with_reducible refine y't (store_all ?_) ?_); (· rw [hxl, hzl])) | ((with_reducible refine y't (whole_of ?_) ?_); (· rw [hxl]; rfl)) | (with_reducible refine y't hr ?_) | fail) <;> (conv => whnf))
      refine y'f rfl (fun cs2 hcs2 => ?_)
      have hin2 : In (L.take j) cs2 cap2 := by
        rw [hcs2, hnv2]
        have := hgr.new (M := L.take j) (o := 0 * Tryd.prog.types[44].size) (c := cap2) (z := z9) (by rw [s44]; rfl) hz9 (by simp; omega)
        rw [List.length_take, List.length_nil, Nat.min_eq_left (by omega)] at this
        exact this
      have hp2 := hin2.pl
      clear hcs2
      skip
      conv => whnf
      repeat' ((first | rw [e9] | rw [hwj] | rw [← hz9] | rw [hj] | rw [hrz] | ((with_reducible refine y'r ?_ ?_); (· decide +kernel)) | ((with_reducible refine y'g ?_ ?_); (· exact ⟨_, rfl⟩)) | (with_reducible first | refine y'b ‹_› ?_ | refine y'n ‹_› ?_ | refine y'1 ‹_› ?_ | refine y'2 ‹_› ?_ | refine y'3 ?_ | refine y'4 ?_) | ((with_reducible refine y'n ?_ ?_); (· first | with_reducible assumption | exact decide_eq_true (by omega) | exact mkOK_of (by decide) | decide +kernel | (refine decide_eq_true ?_; simp (disch := omega) only [i64w]; omega))) | (with_reducible first | refine y'n (y'7 ‹_› ‹_›) ?_ | refine y'v (y'8 ‹_› ‹_›) (fun s hs => ?_) | refine y'5 ‹_› ?_ | refine y'6 ‹_› ?_) | ((with_reducible refine y'p ?_ ?_); (· rfl)) | ((with_reducible refine y'q ?_ ?_); (· rfl)) | ((with_reducible refine y'n ?_ ?_); (· first | (rw [hxl, hzl]; rfl) | (rw [hxl]; rfl))) | ((with_reducible refine y't (store_all ?_) ?_); (· rw [hxl, hzl])) | ((with_reducible refine y't (whole_of ?_) ?_); (· rw [hxl]; rfl)) | (with_reducible refine y't hr ?_) | fail) <;> (conv => whnf))
      refine cutx_of (fun F H => ∃ (q c1 : Nat) (xs : List A), In (L.take j) xs c1 ∧ q = j ∧ F = [(0, .a (.ptr 0 0)), (4, .a (.ptr 4 0)), (13, .a (.int .i64 (j : Int))), (14, .a (.ptr 5 0)), (15, .a (.slc 6 0 q c1))] ∧ H = (HL T w r asked done taken number over last t bd at_ go se k0 k1 k2 k3 k4 k5 k6 k7 k8 3 n cap [.cells cs 44 mk, .cells [.int .i64 kd, .int .i64 i] 41 false, .cells xr 44 false, .cells xs 44 false])) (Into.weak [0, 1, 2, 3, 4, 5, 7] [(0, .a (.ptr 0 0)), (4, .a (.ptr 4 0)), (13, .a (.int .i64 (j : Int))), (14, .a (.ptr 5 0)), (15, .a (.slc 6 0 (0 + j) cap2))] (HL T w r asked done taken number over last t bd at_ go se k0 k1 k2 k3 k4 k5 k6 k7 k8 3 n cap [.cells cs 44 mk, .cells [.int .i64 kd, .int .i64 i] 41 false, .cells xr 44 false, .cells cs2 44 false]) ⟨_, _, cs2, hin2, Nat.zero_add j, rfl, rfl⟩ ⟨rfl, rfl, rfl, rfl, rfl, trivial⟩ ⟨rfl, rfl, rfl, ren_pl hp _ _ _, rfl, ren_pl hxp _ _ _, ren_pl hp2 _ _ _, trivial⟩ (by simp [nodupb, baseb, Ob.okb, frmOk, V.okb, A.okb, hp.2, hxp.2, hp2.2] <;> decide)) ?_
    all_goals
      clear hin2 hp2 cs2 nv hnv2 hnvl gr hgr hgp hgl hjm
      rintro F H ⟨q, c1, xs, hxs, hq, rfl, rfl⟩
      have hxsp := hxs.pl
      have hxsl := hxs.len
      have hxc := hxs.le
      rw [List.length_take, Nat.min_eq_left (by omega)] at hxc
      skip
      conv => whnf
      repeat' ((first | rw [e9] | rw [hwj] | rw [← hz9] | rw [hj] | rw [hrz] | ((with_reducible refine y'r ?_ ?_); (· decide +kernel)) | ((with_reducible refine y'g ?_ ?_); (· exact ⟨_, rfl⟩)) | (with_reducible first | refine y'b ‹_› ?_ | refine y'n ‹_› ?_ | refine y'1 ‹_› ?_ | refine y'2 ‹_› ?_ | refine y'3 ?_ | refine y'4 ?_) | ((with_reducible refine y'n ?_ ?_); (· first | with_reducible assumption | exact decide_eq_true (by omega) | exact mkOK_of (by decide) | decide +kernel | (refine decide_eq_true ?_; simp (disch := omega) only [i64w]; omega))) | (with_reducible first | refine y'n (y'7 ‹_› ‹_›) ?_ | refine y'v (y'8 ‹_› ‹_›) (fun s hs => ?_) | refine y'5 ‹_› ?_ | refine y'6 ‹_› ?_) | ((with_reducible refine y'p ?_ ?_); (· rfl)) | ((with_reducible refine y'q ?_ ?_); (· rfl)) | ((with_reducible refine y'n ?_ ?_); (· first | (rw [hxl, hzl]; rfl) | (rw [hxl]; rfl))) | ((with_reducible refine y't (store_all ?_) ?_); (· rw [hxl, hzl])) | ((with_reducible refine y't (whole_of ?_) ?_); (· rw [hxl]; rfl)) | (with_reducible refine y't hr ?_) | fail) <;> (conv => whnf))
      have hj1 : ((j + 1 : Nat) : Int).toNat = j + 1 := rfl
      have hml : q + (n - (j + 1)) = (L.take j ++ L.drop (j + 1)).length := by rw [List.length_append, List.length_take, List.length_drop]; omega
      rw [hj1, ← hoff]
      refine y'n dk ?_
      conv => whnf
      rw [← hnw]
      refine y'c (fun hc => ?_) (fun hc => ?_)
      case' refine_1 =>
        have hc' := of_decide_eq_true hc
        conv => whnf
        refine y'n (decide_eq_true (by rw [s44, hnwl, hxsl]; omega)) ?_
        skip
        conv => whnf
        repeat' ((first | rw [e9] | rw [hwj] | rw [← hz9] | rw [hj] | rw [hrz] | ((with_reducible refine y'r ?_ ?_); (· decide +kernel)) | ((with_reducible refine y'g ?_ ?_); (· exact ⟨_, rfl⟩)) | (with_reducible first | refine y'b ‹_› ?_ | refine y'n ‹_› ?_ | refine y'1 ‹_› ?_ | refine y'2 ‹_› ?_ | refine y'3 ?_ | refine y'4 ?_) | ((with_reducible refine y'n ?_ ?_); (· first | with_reducible assumption | exact decide_eq_true (by omega) | exact mkOK_of (by decide) | decide +kernel | (refine decide_eq_true ?_; simp (disch := omega) only [i64w]; omega))) | (with_reducible first | refine y'n (y'7 ‹_› ‹_›) ?_ | refine y'v (y'8 ‹_› ‹_›) (fun s hs => ?_) | refine y'5 ‹_› ?_ | refine y'6 ‹_› ?_) | ((with_reducible refine y'p ?_ ?_); (· rfl)) | ((with_reducible refine y'q ?_ ?_); (· rfl)) | ((with_reducible refine y'n ?_ ?_); (· first | (rw [hxl, hzl]; rfl) | (rw [hxl]; rfl))) | ((with_reducible refine y't (store_all ?_) ?_); (· rw [hxl, hzl])) | ((with_reducible refine y't (whole_of ?_) ?_); (· rw [hxl]; rfl)) | (with_reducible refine y't hr ?_) | fail) <;> (conv => whnf))
        refine y'f rfl (fun cs2 hcs2 => ?_)
        have hin2 : In (L.take j ++ L.drop (j + 1)) cs2 c1 := by rw [hcs2, hnw2]; exact hxs.store (by rw [s44, List.length_take]; omega) (by rw [List.length_take, List.length_drop]; omega)
        have hp2 := hin2.pl
        clear hcs2
        skip
        conv => whnf
        repeat' ((first | rw [e9] | rw [hwj] | rw [← hz9] | rw [hj] | rw [hrz] | ((with_reducible refine y'r ?_ ?_); (· decide +kernel)) | ((with_reducible refine y'g ?_ ?_); (· exact ⟨_, rfl⟩)) | (with_reducible first | refine y'b ‹_› ?_ | refine y'n ‹_› ?_ | refine y'1 ‹_› ?_ | refine y'2 ‹_› ?_ | refine y'3 ?_ | refine y'4 ?_) | ((with_reducible refine y'n ?_ ?_); (· first | with_reducible assumption | exact decide_eq_true (by omega) | exact mkOK_of (by decide) | decide +kernel | (refine decide_eq_true ?_; simp (disch := omega) only [i64w]; omega))) | (with_reducible first | refine y'n (y'7 ‹_› ‹_›) ?_ | refine y'v (y'8 ‹_› ‹_›) (fun s hs => ?_) | refine y'5 ‹_› ?_ | refine y'6 ‹_› ?_) | ((with_reducible refine y'p ?_ ?_); (· rfl)) | ((with_reducible refine y'q ?_ ?_); (· rfl)) | ((with_reducible refine y'n ?_ ?_); (· first | (rw [hxl, hzl]; rfl) | (rw [hxl]; rfl))) | ((with_reducible refine y't (store_all ?_) ?_); (· rw [hxl, hzl])) | ((with_reducible refine y't (whole_of ?_) ?_); (· rw [hxl]; rfl)) | (with_reducible refine y't hr ?_) | fail) <;> (conv => whnf))
        refine cutx_of (fun F H => ∃ (m c2 : Nat) (xs : List A), In (L.take j ++ L.drop (j + 1)) xs c2 ∧ m = (L.take j ++ L.drop (j + 1)).length ∧ F = [(0, .a (.ptr 0 0)), (4, .a (.ptr 4 0)), (14, .a (.ptr 5 0))] ∧ H = (HL T w r asked done taken number over last t bd at_ go se k0 k1 k2 k3 k4 k5 k6 k7 k8 6 m c2 [.cells cs 44 mk, .cells [.int .i64 kd, .int .i64 i] 41 false, .cells xr 44 false, .cells xs 44 false])) (Into.weak [0, 1, 2, 3, 4, 5, 6] [(0, .a (.ptr 0 0)), (4, .a (.ptr 4 0)), (14, .a (.ptr 5 0))] (HL T w r asked done taken number over last t bd at_ go se k0 k1 k2 k3 k4 k5 k6 k7 k8 6 (q + (n - (j + 1))) c1 [.cells cs 44 mk, .cells [.int .i64 kd, .int .i64 i] 41 false, .cells xr 44 false, .cells cs2 44 false]) ⟨_, _, cs2, hin2, hml, rfl, rfl⟩ ⟨rfl, rfl, rfl, trivial⟩ ⟨rfl, rfl, rfl, ren_pl hp _ _ _, rfl, ren_pl hxp _ _ _, ren_pl hp2 _ _ _, trivial⟩ (by simp [nodupb, baseb, Ob.okb, frmOk, V.okb, A.okb, hp.2, hxp.2, hp2.2] <;> decide)) ?_
      case' refine_2 =>
        have hc' := of_decide_eq_false hc
        conv => whnf
        refine y'n (decide_eq_true (by rw [s44, b44, hxsl]; omega)) ?_
        intro cap2 hcap2
        skip
        conv => whnf
        repeat' ((first | rw [e9] | rw [hwj] | rw [← hz9] | rw [hj] | rw [hrz] | ((with_reducible refine y'r ?_ ?_); (· decide +kernel)) | ((with_reducible refine y'g ?_ ?_); (· exact ⟨_, rfl⟩)) | (with_reducible first | refine y'b ‹_› ?_ | refine y'n ‹_› ?_ | refine y'1 ‹_› ?_ | refine y'2 ‹_› ?_ | refine y'3 ?_ | refine y'4 ?_) | ((with_reducible refine y'n ?_ ?_); (· first | with_reducible assumption | exact decide_eq_true (by omega) | exact mkOK_of (by decide) | decide +kernel | (refine decide_eq_true ?_; simp (disch := omega) only [i64w]; omega))) | (with_reducible first | refine y'n (y'7 ‹_› ‹_›) ?_ | refine y'v (y'8 ‹_› ‹_›) (fun s hs => ?_) | refine y'5 ‹_› ?_ | refine y'6 ‹_› ?_) | ((with_reducible refine y'p ?_ ?_); (· rfl)) | ((with_reducible refine y'q ?_ ?_); (· rfl)) | ((with_reducible refine y'n ?_ ?_); (· first | (rw [hxl, hzl]; rfl) | (rw [hxl]; rfl))) | ((with_reducible refine y't (store_all ?_) ?_); (· rw [hxl, hzl])) | ((with_reducible refine y't (whole_of ?_) ?_); (· rw [hxl]; rfl)) | (with_reducible refine y't hr ?_) | fail) <;> (conv => whnf))
        refine y'f rfl (fun cs2 hcs2 => ?_)
        have hin2 : In (L.take j ++ L.drop (j + 1)) cs2 cap2 := by
          rw [hcs2, hnw2]
          have := hxs.new (M := L.drop (j + 1)) (o := q * Tryd.prog.types[44].size) (c := cap2) (z := z9) (by rw [s44, List.length_take]; omega) hz9 (by rw [List.length_take, List.length_drop]; omega)
          rw [show (L.take j).length + (L.drop (j + 1)).length = q + (n - (j + 1)) by rw [List.length_take, List.length_drop]; omega] at this
          exact this
        have hp2 := hin2.pl
        clear hcs2 hcap2
        skip
        conv => whnf
        repeat' ((first | rw [e9] | rw [hwj] | rw [← hz9] | rw [hj] | rw [hrz] | ((with_reducible refine y'r ?_ ?_); (· decide +kernel)) | ((with_reducible refine y'g ?_ ?_); (· exact ⟨_, rfl⟩)) | (with_reducible first | refine y'b ‹_› ?_ | refine y'n ‹_› ?_ | refine y'1 ‹_› ?_ | refine y'2 ‹_› ?_ | refine y'3 ?_ | refine y'4 ?_) | ((with_reducible refine y'n ?_ ?_); (· first | with_reducible assumption | exact decide_eq_true (by omega) | exact mkOK_of (by decide) | decide +kernel | (refine decide_eq_true ?_; simp (disch := omega) only [i64w]; omega))) | (with_reducible first | refine y'n (y'7 ‹_› ‹_›) ?_ | refine y'v (y'8 ‹_› ‹_›) (fun s hs => ?_) | refine y'5 ‹_› ?_ | refine y'6 ‹_› ?_) | ((with_reducible refine y'p ?_ ?_); (· rfl)) | ((with_reducible refine y'q ?_ ?_); (· rfl)) | ((with_reducible refine y'n ?_ ?_); (· first | (rw [hxl, hzl]; rfl) | (rw [hxl]; rfl))) | ((with_reducible refine y't (store_all ?_) ?_); (· rw [hxl, hzl])) | ((with_reducible refine y't (whole_of ?_) ?_); (· rw [hxl]; rfl)) | (with_reducible refine y't hr ?_) | fail) <;> (conv => whnf))
        refine cutx_of (fun F H => ∃ (m c2 : Nat) (xs : List A), In (L.take j ++ L.drop (j + 1)) xs c2 ∧ m = (L.take j ++ L.drop (j + 1)).length ∧ F = [(0, .a (.ptr 0 0)), (4, .a (.ptr 4 0)), (14, .a (.ptr 5 0))] ∧ H = (HL T w r asked done taken number over last t bd at_ go se k0 k1 k2 k3 k4 k5 k6 k7 k8 6 m c2 [.cells cs 44 mk, .cells [.int .i64 kd, .int .i64 i] 41 false, .cells xr 44 false, .cells xs 44 false])) (Into.weak [0, 1, 2, 3, 4, 5, 7] [(0, .a (.ptr 0 0)), (4, .a (.ptr 4 0)), (14, .a (.ptr 5 0))] (HL T w r asked done taken number over last t bd at_ go se k0 k1 k2 k3 k4 k5 k6 k7 k8 6 (q + (n - (j + 1))) cap2 [.cells cs 44 mk, .cells [.int .i64 kd, .int .i64 i] 41 false, .cells xr 44 false, .cells cs2 44 false]) ⟨_, _, cs2, hin2, hml, rfl, rfl⟩ ⟨rfl, rfl, rfl, trivial⟩ ⟨rfl, rfl, rfl, ren_pl hp _ _ _, rfl, ren_pl hxp _ _ _, ren_pl hp2 _ _ _, trivial⟩ (by simp [nodupb, baseb, Ob.okb, frmOk, V.okb, A.okb, hp.2, hxp.2, hp2.2] <;> decide)) ?_
      all_goals
        clear hin2 hp2 cs2 hxs hxsp hxsl hxc xs hc hc' c3 c4 hml hq q
        rintro F H ⟨m, c2, xs, hxs, hm, rfl, rfl⟩
        have hxsp := hxs.pl
        have hsub : ∀ y ∈ L.take j ++ L.drop (j + 1), y ∈ L := fun y hy => by
          rcases List.mem_append.1 hy with hy | hy
          · exact List.mem_of_mem_take hy
          · exact List.mem_of_mem_drop hy
        have hmle : (L.take j ++ L.drop (j + 1)).length ≤ L.length := by rw [List.length_append, List.length_take, List.length_drop]; omega
        generalize L.take j ++ L.drop (j + 1) = L' at *
        have GL := G.sub hsub
        by_cases hk4 : kd = 4
        · have c4 : (kd == 4) = true := by simp; omega
          have hk := hK done taken t at_ k0 k1 k2 k3 k4 k5 k6 k7 k8 L' c2 xs false GL hxs (by omega)
          rw [← hm] at hk
          clear hK G GL
          skip
          conv => whnf
          repeat' ((first | rw [e9] | rw [hwj] | rw [← hz9] | rw [hj] | rw [hrz] | ((with_reducible refine y'r ?_ ?_); (· decide +kernel)) | ((with_reducible refine y'g ?_ ?_); (· exact ⟨_, rfl⟩)) | (with_reducible first | refine y'b ‹_› ?_ | refine y'n ‹_› ?_ | refine y'1 ‹_› ?_ | refine y'2 ‹_› ?_ | refine y'3 ?_ | refine y'4 ?_) | ((with_reducible refine y'n ?_ ?_); (· first | with_reducible assumption | exact decide_eq_true (by omega) | exact mkOK_of (by decide) | decide +kernel | (refine decide_eq_true ?_; simp (disch := omega) only [i64w]; omega))) | (with_reducible first | refine y'n (y'7 ‹_› ‹_›) ?_ | refine y'v (y'8 ‹_› ‹_›) (fun s hs => ?_) | refine y'5 ‹_› ?_ | refine y'6 ‹_› ?_) | ((with_reducible refine y'p ?_ ?_); (· rfl)) | ((with_reducible refine y'q ?_ ?_); (· rfl)) | ((with_reducible refine y'n ?_ ?_); (· first | (rw [hxl, hzl]; rfl) | (rw [hxl]; rfl))) | ((with_reducible refine y't (store_all ?_) ?_); (· rw [hxl, hzl])) | ((with_reducible refine y't (whole_of ?_) ?_); (· rw [hxl]; rfl)) | (with_reducible refine y't hr ?_) | fail) <;> (conv => whnf))
          exact keepOf (v₀ := .a (.bool true)) (HL T w r asked done taken number over last t bd at_ go se k0 k1 k2 k3 k4 k5 k6 k7 k8 4 m c2 [.cells cs 44 mk, .cells xs 44 false]) [0, 1, 2, 3, 6] rfl ⟨rfl, rfl, rfl, ren_pl hp _ _ _, ren_pl hxsp _ _ _, trivial⟩ (by simp [nodupb, baseb, Ob.okb, frmOk, V.okb, A.okb, hp.2, hxsp.2] <;> decide) hk
        · have c4 : (kd == 4) = false := by simp; omega
          have okx := G.fl x hxm
          have hrp := (Pl.row x).2
          skip
          conv => whnf
          repeat' ((first | rw [e9] | rw [hwj] | rw [← hz9] | rw [hj] | rw [hrz] | ((with_reducible refine y'r ?_ ?_); (· decide +kernel)) | ((with_reducible refine y'g ?_ ?_); (· exact ⟨_, rfl⟩)) | (with_reducible first | refine y'b ‹_› ?_ | refine y'n ‹_› ?_ | refine y'1 ‹_› ?_ | refine y'2 ‹_› ?_ | refine y'3 ?_ | refine y'4 ?_) | ((with_reducible refine y'n ?_ ?_); (· first | with_reducible assumption | exact decide_eq_true (by omega) | exact mkOK_of (by decide) | decide +kernel | (refine decide_eq_true ?_; simp (disch := omega) only [i64w]; omega))) | (with_reducible first | refine y'n (y'7 ‹_› ‹_›) ?_ | refine y'v (y'8 ‹_› ‹_›) (fun s hs => ?_) | refine y'5 ‹_› ?_ | refine y'6 ‹_› ?_) | ((with_reducible refine y'p ?_ ?_); (· rfl)) | ((with_reducible refine y'q ?_ ?_); (· rfl)) | ((with_reducible refine y'n ?_ ?_); (· first | (rw [hxl, hzl]; rfl) | (rw [hxl]; rfl))) | ((with_reducible refine y't (store_all ?_) ?_); (· rw [hxl, hzl])) | ((with_reducible refine y't (whole_of ?_) ?_); (· rw [hxl]; rfl)) | (with_reducible refine y't hr ?_) | fail) <;> (conv => whnf))
          cases han : x.an with
          | true =>
            refine Fn.frame [0, 1, 2, 6] (by show [_, V.g (x.row.map (A.ren _))] = _; rw [← hxr, hxp.1]; rfl) (by exact ⟨rfl, rfl, rfl, ren_pl hxsp _ _ _, trivial⟩) (by simp [nodupb, V.okb, A.okb, Ob.okb, hxsp.2, hrp] <;> decide) (arrA T w r asked done taken number over last t bd at_ go se k0 k1 k2 k3 k4 k5 k6 k7 k8 hI L' GL m c2 xs false hxs hm (by omega) (by omega) x okx han (fun tk2 t2 at2 G2 => ?_))
            have hk := hK done tk2 t2 at2 k0 k1 k2 k3 k4 k5 k6 k7 k8 L' c2 xs false G2 hxs (by omega)
            rw [← hm] at hk
            clear hK G GL G2 okx
            skip
            conv => whnf
            repeat' ((first | rw [e9] | rw [hwj] | rw [← hz9] | rw [hj] | rw [hrz] | ((with_reducible refine y'r ?_ ?_); (· decide +kernel)) | ((with_reducible refine y'g ?_ ?_); (· exact ⟨_, rfl⟩)) | (with_reducible first | refine y'b ‹_› ?_ | refine y'n ‹_› ?_ | refine y'1 ‹_› ?_ | refine y'2 ‹_› ?_ | refine y'3 ?_ | refine y'4 ?_) | ((with_reducible refine y'n ?_ ?_); (· first | with_reducible assumption | exact decide_eq_true (by omega) | exact mkOK_of (by decide) | decide +kernel | (refine decide_eq_true ?_; simp (disch := omega) only [i64w]; omega))) | (with_reducible first | refine y'n (y'7 ‹_› ‹_›) ?_ | refine y'v (y'8 ‹_› ‹_›) (fun s hs => ?_) | refine y'5 ‹_› ?_ | refine y'6 ‹_› ?_) | ((with_reducible refine y'p ?_ ?_); (· rfl)) | ((with_reducible refine y'q ?_ ?_); (· rfl)) | ((with_reducible refine y'n ?_ ?_); (· first | (rw [hxl, hzl]; rfl) | (rw [hxl]; rfl))) | ((with_reducible refine y't (store_all ?_) ?_); (· rw [hxl, hzl])) | ((with_reducible refine y't (whole_of ?_) ?_); (· rw [hxl]; rfl)) | (with_reducible refine y't hr ?_) | fail) <;> (conv => whnf))
            exact keepOf (v₀ := .a (.bool true)) (HL T w r asked done tk2 number over last t2 bd at2 go se k0 k1 k2 k3 k4 k5 k6 k7 k8 4 m c2 [.cells cs 44 mk, .cells xs 44 false]) [0, 1, 2, 3, 6] rfl ⟨rfl, rfl, rfl, ren_pl hp _ _ _, ren_pl hxsp _ _ _, trivial⟩ (by simp [nodupb, baseb, Ob.okb, frmOk, V.okb, A.okb, hp.2, hxsp.2] <;> decide) hk
          | false =>
            refine Fn.frame [0, 1, 2, 6] (by show [_, V.g (x.row.map (A.ren _))] = _; rw [← hxr, hxp.1]; rfl) (by exact ⟨rfl, rfl, rfl, ren_pl hxsp _ _ _, trivial⟩) (by simp [nodupb, V.okb, A.okb, Ob.okb, hxsp.2, hrp] <;> decide) (arrQ T w r asked done taken number over last t bd at_ go se k0 k1 k2 k3 k4 k5 k6 k7 k8 hI L' GL m c2 xs false hxs hm (by omega) (by omega) x okx han (fun dn j0 j1 j2 j3 j4 j5 j6 j7 j8 L2 c3 cs3 mk3 G2 hin3 hl3 => ?_) (fun dn j0 j1 j2 j3 j4 j5 j6 j7 j8 L2 c3 cs3 G2 hin3 hl3 => ?_))
            · have hk := hK dn taken t at_ j0 j1 j2 j3 j4 j5 j6 j7 j8 L2 c3 cs3 mk3 G2 hin3 (by omega)
              have hp3 := hin3.pl
              clear hK G GL G2 okx
              skip
              conv => whnf
              repeat' ((first | rw [e9] | rw [hwj] | rw [← hz9] | rw [hj] | rw [hrz] | ((with_reducible refine y'r ?_ ?_); (· decide +kernel)) | ((with_reducible refine y'g ?_ ?_); (· exact ⟨_, rfl⟩)) | (with_reducible first | refine y'b ‹_› ?_ | refine y'n ‹_› ?_ | refine y'1 ‹_› ?_ | refine y'2 ‹_› ?_ | refine y'3 ?_ | refine y'4 ?_) | ((with_reducible refine y'n ?_ ?_); (· first | with_reducible assumption | exact decide_eq_true (by omega) | exact mkOK_of (by decide) | decide +kernel | (refine decide_eq_true ?_; simp (disch := omega) only [i64w]; omega))) | (with_reducible first | refine y'n (y'7 ‹_› ‹_›) ?_ | refine y'v (y'8 ‹_› ‹_›) (fun s hs => ?_) | refine y'5 ‹_› ?_ | refine y'6 ‹_› ?_) | ((with_reducible refine y'p ?_ ?_); (· rfl)) | ((with_reducible refine y'q ?_ ?_); (· rfl)) | ((with_reducible refine y'n ?_ ?_); (· first | (rw [hxl, hzl]; rfl) | (rw [hxl]; rfl))) | ((with_reducible refine y't (store_all ?_) ?_); (· rw [hxl, hzl])) | ((with_reducible refine y't (whole_of ?_) ?_); (· rw [hxl]; rfl)) | (with_reducible refine y't hr ?_) | fail) <;> (conv => whnf))
              exact keepOf (v₀ := .a (.bool true)) (HL T w r asked dn taken number over last t bd at_ go se j0 j1 j2 j3 j4 j5 j6 j7 j8 4 L2.length c3 [.cells cs 44 mk, .cells cs3 44 mk3]) [0, 1, 2, 3, 6] rfl ⟨rfl, rfl, rfl, ren_pl hp _ _ _, ren_pl hp3 _ _ _, trivial⟩ (by simp [nodupb, baseb, Ob.okb, frmOk, V.okb, A.okb, hp.2, hp3.2] <;> decide) hk
            · have hk := hK dn taken t at_ j0 j1 j2 j3 j4 j5 j6 j7 j8 L2 c3 cs3 false G2 hin3 (by omega)
              have hp3 := hin3.pl
              clear hK G GL G2 okx
              skip
              conv => whnf
              repeat' ((first | rw [e9] | rw [hwj] | rw [← hz9] | rw [hj] | rw [hrz] | ((with_reducible refine y'r ?_ ?_); (· decide +kernel)) | ((with_reducible refine y'g ?_ ?_); (· exact ⟨_, rfl⟩)) | (with_reducible first | refine y'b ‹_› ?_ | refine y'n ‹_› ?_ | refine y'1 ‹_› ?_ | refine y'2 ‹_› ?_ | refine y'3 ?_ | refine y'4 ?_) | ((with_reducible refine y'n ?_ ?_); (· first | with_reducible assumption | exact decide_eq_true (by omega) | exact mkOK_of (by decide) | decide +kernel | (refine decide_eq_true ?_; simp (disch := omega) only [i64w]; omega))) | (with_reducible first | refine y'n (y'7 ‹_› ‹_›) ?_ | refine y'v (y'8 ‹_› ‹_›) (fun s hs => ?_) | refine y'5 ‹_› ?_ | refine y'6 ‹_› ?_) | ((with_reducible refine y'p ?_ ?_); (· rfl)) | ((with_reducible refine y'q ?_ ?_); (· rfl)) | ((with_reducible refine y'n ?_ ?_); (· first | (rw [hxl, hzl]; rfl) | (rw [hxl]; rfl))) | ((with_reducible refine y't (store_all ?_) ?_); (· rw [hxl, hzl])) | ((with_reducible refine y't (whole_of ?_) ?_); (· rw [hxl]; rfl)) | (with_reducible refine y't hr ?_) | fail) <;> (conv => whnf))
              exact keepOf (v₀ := .a (.bool true)) (HL T w r asked dn taken number over last t bd at_ go se j0 j1 j2 j3 j4 j5 j6 j7 j8 4 L2.length c3 [.cells cs 44 mk, .cells cs3 44 false]) [0, 1, 2, 3, 7] rfl ⟨rfl, rfl, rfl, ren_pl hp _ _ _, ren_pl hp3 _ _ _, trivial⟩ (by simp [nodupb, baseb, Ob.okb, frmOk, V.okb, A.okb, hp.2, hp3.2] <;> decide) hk
end
end Go.Proofs.YtefimkcfaoabpaaDoor.TA
