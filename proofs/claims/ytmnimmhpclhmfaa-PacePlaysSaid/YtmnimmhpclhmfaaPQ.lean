import Derived.Test.YtmnimmhpclhmfaaPO
namespace Go.Proofs.Ytmnimmhpclhmfaa.PC
open Go.Eng
set_option maxRecDepth 100000
def h26' : Hints := gOf [(13, [], [])]
/-- The numbers from 1 to n. -/
def upTo (n : Nat) : List Int := (List.range n).map fun i => ((i + 1 : Nat) : Int)
theorem upTo_length (n : Nat) : (upTo n).length = n := by simp [upTo]
theorem upTo_succ (n : Nat) : upTo (n + 1) = upTo n ++ [((n + 1 : Nat) : Int)] := by simp [upTo, List.range_succ]
theorem upTo_sorted (n : Nat) : (upTo n).Pairwise (· < ·) := by
  unfold upTo
  rw [List.pairwise_map]
  exact List.pairwise_lt_range.imp fun h => by omega
theorem s3 : Try.prog.types[3].size = 1 := rfl
theorem b3 : Try.prog.types[3].bytes = 8 := rfl
structure Sel (f : Int → Option Int) (n : Nat) (X L : List Int) : Prop where
  perm : (X ++ L).Perm (upTo n)
  sorted : L.Pairwise (· < ·)
  done : X.Pairwise (before f)
  ahead : ∀ x ∈ X, ∀ y ∈ L, before f x y
theorem Sel.zero (f : Int → Option Int) (n : Nat) : Sel f n [] (upTo n) := ⟨List.Perm.refl _, upTo_sorted n, List.Pairwise.nil, fun _ h => by cases h⟩
theorem Sel.step {f : Int → Option Int} {n : Nat} {X L : List Int} (h : Sel f n X L) {k : Nat} {x : Int} (hb : Best f L k) (hx : L[k]? = some x) : Sel f n (X ++ [x]) (L.eraseIdx k) := by
  have p := perm_erase hx
  refine ⟨?_, h.sorted.sublist (List.eraseIdx_sublist L k), ?_, ?_⟩
  · refine List.Perm.trans ?_ h.perm
    rw [List.append_assoc]
    exact List.Perm.append_left X p.symm
  · rw [List.pairwise_append]
    refine ⟨h.done, List.pairwise_singleton _ _, fun a ha b hb => ?_⟩
    rw [List.mem_singleton] at hb
    subst hb
    exact h.ahead a ha b (List.mem_of_getElem? hx)
  · intro a ha y hy
    rcases List.mem_append.1 ha with ha | ha
    · exact h.ahead a ha y ((List.eraseIdx_sublist L k).subset hy)
    · rw [List.mem_singleton] at ha
      subst ha
      exact best_before hb hx h.sorted y hy
theorem Sel.len {f : Int → Option Int} {n : Nat} {X L : List Int} (h : Sel f n X L) : X.length + L.length = n := by
  have := h.perm.length_eq
  rw [List.length_append, upTo_length] at this
  exact this
theorem sel_src {ls : List A} {L J : List Int} {n k : Nat} (hls : ls = i64s (L ++ J)) (hk : k < L.length) (hn : L.length ≤ n) :
    List.drop (if n = k + 1 then 0 else 0 + (k + 1) * Try.prog.types[3].size) (List.take ((if n = k + 1 then 0 else 0 + (k + 1) * Try.prog.types[3].size) + (L.length - (k + 1)) * Try.prog.types[3].size) ls) = i64s (L.drop (k + 1)) := by
  rw [s3, hls]
  by_cases h : n = k + 1
  · rw [if_pos h, show L.length - (k + 1) = 0 by omega, List.drop_of_length_le (show L.length ≤ k + 1 by omega)]
    unfold i64s; simp
  · rw [if_neg h, Nat.zero_add, Nat.mul_one, Nat.mul_one, i64s_take, i64s_drop, show k + 1 + (L.length - (k + 1)) = L.length by omega, List.take_left' rfl]
section
variable {ro : Addr → A → Prop}
theorem first42z (P : List Pt) (cs : List A) (n : Nat) (mk : Bool) (hcs : cs = prow P) (hn : n = P.length) (hn5 : n ≤ 5) (now : Nat) (L J : List Int) (ls : List A) (m c : Nat) (ml : Bool) (hls : ls = i64s (L ++ J)) (hm : m = L.length) (hm1 : 1 ≤ m) (hm5 : m ≤ 5) (z1 z2 : List A) (hz1 : z1 = [.ptr 1 0]) (hz2 : z2 = [.flt .f64 now]) {K : V → Hp → Prop}
    (hK : ∀ k, k < m → Best (sk P now) L k → K (.a (.int .i64 (k : Int))) [.cells cs 73 mk, .cells [.slc 0 0 n n] 68 false, .cells z1 32 false, .cells z2 23 false, .cells ls 3 ml]) :
    Go.Eng.Fn Try.prog ro 42 [.a (.slc 4 0 m c), .a (.clo 43 [(2, 0), (3, 0)])] [.cells cs 73 mk, .cells [.slc 0 0 n n] 68 false, .cells z1 32 false, .cells z2 23 false, .cells ls 3 ml] K := by
  subst hz1 hz2
  exact first42 P cs n mk hcs hn hn5 now L J ls m c ml hls hm hm1 hm5 hK
set_option maxHeartbeats 800000 in
theorem order26 (P : List Pt) (cs : List A) (n : Nat) (mk : Bool) (hcs : cs = prow P) (hn : n = P.length) (hn1 : 1 ≤ n) (hn5 : n ≤ 5) (now : Nat) {K : V → Hp → Prop}
    (hK : ∀ X Y xs cap, Sel (sk P now) n X [] → xs = i64s (X ++ Y) → cap = n + Y.length → K (.a (.slc 2 0 n cap)) [.cells cs 73 mk, .cells [.slc 0 0 n n] 68 false, .cells xs 3 false]) :
    Go.Eng.Fn Try.prog ro 26 [.a (.ptr 1 0), .a (.flt .f64 now)] [.cells cs 73 mk, .cells [.slc 0 0 n n] 68 false] K := by
  have hp := Pl.prow hcs
  obtain ⟨z1, hz1⟩ : ∃ z : List A, z = [.ptr 1 0] := ⟨_, rfl⟩
  obtain ⟨z2, hz2⟩ : ∃ z : List A, z = [.flt .f64 now] := ⟨_, rfl⟩
  have y1 : z1[0]? = some (.ptr 1 0) := by rw [hz1]; rfl
  have y2 : z2[0]? = some (.flt .f64 now) := by rw [hz2]; rfl
  have hzp : Pl z2 := by rw [hz2]; exact ⟨fun _ => rfl, fun _ => rfl⟩
  have c1 : mkOK 0 (n : Int) Try.prog.types[3].bytes = true := mkOK_of (by rw [b3]; omega)
  refine Go.Eng.Fn.weak ?_
  refine Go.Eng.Fn.of 2 h26' rfl Try.func26 rfl (Nat.le_of_ble_eq_true rfl) ?_
  simp only [frm0, Nat.zero_add]
  conv => whnf
  repeat' (first
    | rw [← hz1]
    | rw [← hz2]
    | rw [← hz3]
    | ((with_reducible refine forceL_of (l := z1) ?_); conv => whnf)
    | ((with_reducible refine forceL_to (l' := z1) ?_ ?_); (· rw [hz1]; rfl); conv => whnf)
    | ((with_reducible apply optm_of); (· first | exact y1 | exact y2); conv => whnf)
    | ((with_reducible refine regx_of ?_ ?_); (· decide +kernel); conv => whnf)
    | ((with_reducible refine growx_pre ?_ ?_); (· exact ⟨_, rfl⟩); conv => whnf)
    | ((with_reducible refine needm_of ?_ ?_); (· first | assumption | exact decide_eq_true (by omega) | exact mkOK_of (by decide) | decide +kernel | (refine decide_eq_true ?_; simp (disch := omega) only [i64w]; omega)); conv => whnf)
    | ((with_reducible refine condm_pos ?_ ?_); (· assumption); conv => whnf)
    | ((with_reducible refine condm_neg ?_ ?_); (· assumption); conv => whnf)
    | ((with_reducible refine forceL_fv (by assumption) ?_); conv => whnf)
    | ((with_reducible refine forceL_rfv (by assumption) ?_); conv => whnf)
    | ((with_reducible refine forceNm_of ?_); conv => whnf)
    | ((with_reducible refine needm_of (fv_lenL (by assumption) (by assumption)) ?_); conv => whnf)
    | ((with_reducible refine optm_var (fv_strL (by assumption) (by assumption)) (fun s hs => ?_)); conv => whnf)
    | ((with_reducible refine forceA_of ?_); conv => whnf)
    | ((with_reducible refine forceL_pl (by assumption) ?_); conv => whnf)
    | ((with_reducible refine forceL_rpl (by assumption) ?_); conv => whnf)
    | ((with_reducible apply optm_of); (· first | exact g0 | exact g1 | exact g2 | exact g3 | exact g4 | exact g5 | exact g6); conv => whnf)
    | fail)
  refine forceL_var (l' := i64s (List.replicate n 0)) (by rw [Int.toNat_natCast, s3, Nat.mul_one]; exact i64s_zeros n) (fun ls hls => ?_)
  have hq := Pl.i64 hls
  rw [Int.toNat_natCast]
  have ez1 : ∀ (δ : Nat → Nat), δ 1 = 1 → some (Ob.cells z1 32 false) = some ((Ob.cells z1 32 false).ren δ) := fun δ h => by rw [hz1]; show _ = some (Ob.cells [.ptr (δ 1) 0] 32 false); rw [h]
  have oz1 : ∀ m, 2 ≤ m → z1.all (A.okb m) = true := fun m h => by rw [hz1]; simp [A.okb]; omega
  conv => whnf
  repeat' (first
    | rw [← hz1]
    | rw [← hz2]
    | rw [← hz3]
    | ((with_reducible refine forceL_of (l := z1) ?_); conv => whnf)
    | ((with_reducible refine forceL_to (l' := z1) ?_ ?_); (· rw [hz1]; rfl); conv => whnf)
    | ((with_reducible apply optm_of); (· first | exact y1 | exact y2); conv => whnf)
    | ((with_reducible refine regx_of ?_ ?_); (· decide +kernel); conv => whnf)
    | ((with_reducible refine growx_pre ?_ ?_); (· exact ⟨_, rfl⟩); conv => whnf)
    | ((with_reducible refine needm_of ?_ ?_); (· first | assumption | exact decide_eq_true (by omega) | exact mkOK_of (by decide) | decide +kernel | (refine decide_eq_true ?_; simp (disch := omega) only [i64w]; omega)); conv => whnf)
    | ((with_reducible refine condm_pos ?_ ?_); (· assumption); conv => whnf)
    | ((with_reducible refine condm_neg ?_ ?_); (· assumption); conv => whnf)
    | ((with_reducible refine forceL_fv (by assumption) ?_); conv => whnf)
    | ((with_reducible refine forceL_rfv (by assumption) ?_); conv => whnf)
    | ((with_reducible refine forceNm_of ?_); conv => whnf)
    | ((with_reducible refine needm_of (fv_lenL (by assumption) (by assumption)) ?_); conv => whnf)
    | ((with_reducible refine optm_var (fv_strL (by assumption) (by assumption)) (fun s hs => ?_)); conv => whnf)
    | ((with_reducible refine forceA_of ?_); conv => whnf)
    | ((with_reducible refine forceL_pl (by assumption) ?_); conv => whnf)
    | ((with_reducible refine forceL_rpl (by assumption) ?_); conv => whnf)
    | ((with_reducible apply optm_of); (· first | exact g0 | exact g1 | exact g2 | exact g3 | exact g4 | exact g5 | exact g6); conv => whnf)
    | fail)
  refine loopx_of (fun q F H => ∃ (i : Nat) (ls : List A), i ≤ n ∧ q = n - i ∧ ls = i64s (upTo i ++ List.replicate (n - i) 0) ∧ F = [(2, .a (.ptr 2 0)), (3, .a (.ptr 3 0)), (5, .a (.slc 4 0 i n)), (21, .a (.int .i64 n)), (22, .a (.int .i64 i))] ∧ H = [.cells cs 73 mk, .cells [.slc 0 0 n n] 68 false, .cells z1 32 false, .cells z2 23 false, .cells ls 3 false]) n ?_ ?_
  · exact Into.weak [0, 1, 2, 3, 4] [(2, .a (.ptr 2 0)), (3, .a (.ptr 3 0)), (5, .a (.slc 4 0 0 n)), (21, .a (.int .i64 n)), (22, .a (.int .i64 (0 : Nat)))] [.cells cs 73 mk, .cells [.slc 0 0 n n] 68 false, .cells z1 32 false, .cells z2 23 false, .cells ls 3 false] ⟨0, ls, by omega, rfl, hls, rfl, rfl⟩ ⟨rfl, rfl, rfl, rfl, rfl, trivial⟩ ⟨ren_pl hp _ _ _, rfl, ez1 _ rfl, ren_pl hzp _ _ _, ren_pl hq _ _ _, trivial⟩ (by simp [nodupb, baseb, Ob.okb, frmOk, V.okb, A.okb, hp.2, hq.2, hzp.2, oz1] <;> decide)
  · clear hls hq ls
    rintro q F H ⟨i, ls, hi, rfl, hls, rfl, rfl⟩
    have hq := Pl.i64 hls
    have hll : ls.length = n := by rw [hls, i64s_length, List.length_append, upTo_length, List.length_replicate]; omega
    conv => whnf
    repeat' (first
      | rw [← hz1]
      | rw [← hz2]
      | rw [← hz3]
      | ((with_reducible refine forceL_of (l := z1) ?_); conv => whnf)
      | ((with_reducible refine forceL_to (l' := z1) ?_ ?_); (· rw [hz1]; rfl); conv => whnf)
      | ((with_reducible apply optm_of); (· first | exact y1 | exact y2); conv => whnf)
      | ((with_reducible refine regx_of ?_ ?_); (· decide +kernel); conv => whnf)
      | ((with_reducible refine growx_pre ?_ ?_); (· exact ⟨_, rfl⟩); conv => whnf)
      | ((with_reducible refine needm_of ?_ ?_); (· first | assumption | exact decide_eq_true (by omega) | exact mkOK_of (by decide) | decide +kernel | (refine decide_eq_true ?_; simp (disch := omega) only [i64w]; omega)); conv => whnf)
      | ((with_reducible refine condm_pos ?_ ?_); (· assumption); conv => whnf)
      | ((with_reducible refine condm_neg ?_ ?_); (· assumption); conv => whnf)
      | ((with_reducible refine forceL_fv (by assumption) ?_); conv => whnf)
      | ((with_reducible refine forceL_rfv (by assumption) ?_); conv => whnf)
      | ((with_reducible refine forceNm_of ?_); conv => whnf)
      | ((with_reducible refine needm_of (fv_lenL (by assumption) (by assumption)) ?_); conv => whnf)
      | ((with_reducible refine optm_var (fv_strL (by assumption) (by assumption)) (fun s hs => ?_)); conv => whnf)
      | ((with_reducible refine forceA_of ?_); conv => whnf)
      | ((with_reducible refine forceL_pl (by assumption) ?_); conv => whnf)
      | ((with_reducible refine forceL_rpl (by assumption) ?_); conv => whnf)
      | ((with_reducible apply optm_of); (· first | exact g0 | exact g1 | exact g2 | exact g3 | exact g4 | exact g5 | exact g6); conv => whnf)
      | fail)
    refine condm_of (fun h => ?_) (fun h => ?_)
    · have hin : i < n := by have := of_decide_eq_true h; omega
      have e4 : IntKind.i64.wrap (↑i + 1) = ((i + 1 : Nat) : Int) := by rw [i64w (by omega) (by omega)]; rfl
      have c2 : decide (i + 1 ≤ n) = true := decide_eq_true (by omega)
      obtain ⟨z3, hz3⟩ : ∃ z : List A, z = [.int .i64 (IntKind.i64.wrap (↑i + 1))] := ⟨_, rfl⟩
      have hz3p : Pl z3 := by rw [hz3]; exact ⟨fun _ => rfl, fun _ => rfl⟩
      have hz3l : List.drop 0 (List.take (0 + 1 * Try.prog.types[3].size) z3) = [.int .i64 ((i + 1 : Nat) : Int)] := by rw [hz3, e4]; rfl
      conv => whnf
      repeat' (first
        | rw [← hz1]
        | rw [← hz2]
        | rw [← hz3]
        | ((with_reducible refine forceL_of (l := z1) ?_); conv => whnf)
        | ((with_reducible refine forceL_to (l' := z1) ?_ ?_); (· rw [hz1]; rfl); conv => whnf)
        | ((with_reducible apply optm_of); (· first | exact y1 | exact y2); conv => whnf)
        | ((with_reducible refine regx_of ?_ ?_); (· decide +kernel); conv => whnf)
        | ((with_reducible refine growx_pre ?_ ?_); (· exact ⟨_, rfl⟩); conv => whnf)
        | ((with_reducible refine needm_of ?_ ?_); (· first | assumption | exact decide_eq_true (by omega) | exact mkOK_of (by decide) | decide +kernel | (refine decide_eq_true ?_; simp (disch := omega) only [i64w]; omega)); conv => whnf)
        | ((with_reducible refine condm_pos ?_ ?_); (· assumption); conv => whnf)
        | ((with_reducible refine condm_neg ?_ ?_); (· assumption); conv => whnf)
        | ((with_reducible refine forceL_fv (by assumption) ?_); conv => whnf)
        | ((with_reducible refine forceL_rfv (by assumption) ?_); conv => whnf)
        | ((with_reducible refine forceNm_of ?_); conv => whnf)
        | ((with_reducible refine needm_of (fv_lenL (by assumption) (by assumption)) ?_); conv => whnf)
        | ((with_reducible refine optm_var (fv_strL (by assumption) (by assumption)) (fun s hs => ?_)); conv => whnf)
        | ((with_reducible refine forceA_of ?_); conv => whnf)
        | ((with_reducible refine forceL_pl (by assumption) ?_); conv => whnf)
        | ((with_reducible refine forceL_rpl (by assumption) ?_); conv => whnf)
        | ((with_reducible apply optm_of); (· first | exact g0 | exact g1 | exact g2 | exact g3 | exact g4 | exact g5 | exact g6); conv => whnf)
        | fail)
      refine forceL_to (l' := z3) (by rw [hz3]; rfl) ?_
      conv => whnf
      repeat' (first
        | rw [← hz1]
        | rw [← hz2]
        | rw [← hz3]
        | ((with_reducible refine forceL_of (l := z1) ?_); conv => whnf)
        | ((with_reducible refine forceL_to (l' := z1) ?_ ?_); (· rw [hz1]; rfl); conv => whnf)
        | ((with_reducible apply optm_of); (· first | exact y1 | exact y2); conv => whnf)
        | ((with_reducible refine regx_of ?_ ?_); (· decide +kernel); conv => whnf)
        | ((with_reducible refine growx_pre ?_ ?_); (· exact ⟨_, rfl⟩); conv => whnf)
        | ((with_reducible refine needm_of ?_ ?_); (· first | assumption | exact decide_eq_true (by omega) | exact mkOK_of (by decide) | decide +kernel | (refine decide_eq_true ?_; simp (disch := omega) only [i64w]; omega)); conv => whnf)
        | ((with_reducible refine condm_pos ?_ ?_); (· assumption); conv => whnf)
        | ((with_reducible refine condm_neg ?_ ?_); (· assumption); conv => whnf)
        | ((with_reducible refine forceL_fv (by assumption) ?_); conv => whnf)
        | ((with_reducible refine forceL_rfv (by assumption) ?_); conv => whnf)
        | ((with_reducible refine forceNm_of ?_); conv => whnf)
        | ((with_reducible refine needm_of (fv_lenL (by assumption) (by assumption)) ?_); conv => whnf)
        | ((with_reducible refine optm_var (fv_strL (by assumption) (by assumption)) (fun s hs => ?_)); conv => whnf)
        | ((with_reducible refine forceA_of ?_); conv => whnf)
        | ((with_reducible refine forceL_pl (by assumption) ?_); conv => whnf)
        | ((with_reducible refine forceL_rpl (by assumption) ?_); conv => whnf)
        | ((with_reducible apply optm_of); (· first | exact g0 | exact g1 | exact g2 | exact g3 | exact g4 | exact g5 | exact g6); conv => whnf)
        | fail)
      refine needm_of (decide_eq_true (by rw [hz3, s3]; simp)) ?_
      conv => whnf
      repeat' (first
        | rw [← hz1]
        | rw [← hz2]
        | rw [← hz3]
        | ((with_reducible refine forceL_of (l := z1) ?_); conv => whnf)
        | ((with_reducible refine forceL_to (l' := z1) ?_ ?_); (· rw [hz1]; rfl); conv => whnf)
        | ((with_reducible apply optm_of); (· first | exact y1 | exact y2); conv => whnf)
        | ((with_reducible refine regx_of ?_ ?_); (· decide +kernel); conv => whnf)
        | ((with_reducible refine growx_pre ?_ ?_); (· exact ⟨_, rfl⟩); conv => whnf)
        | ((with_reducible refine needm_of ?_ ?_); (· first | assumption | exact decide_eq_true (by omega) | exact mkOK_of (by decide) | decide +kernel | (refine decide_eq_true ?_; simp (disch := omega) only [i64w]; omega)); conv => whnf)
        | ((with_reducible refine condm_pos ?_ ?_); (· assumption); conv => whnf)
        | ((with_reducible refine condm_neg ?_ ?_); (· assumption); conv => whnf)
        | ((with_reducible refine forceL_fv (by assumption) ?_); conv => whnf)
        | ((with_reducible refine forceL_rfv (by assumption) ?_); conv => whnf)
        | ((with_reducible refine forceNm_of ?_); conv => whnf)
        | ((with_reducible refine needm_of (fv_lenL (by assumption) (by assumption)) ?_); conv => whnf)
        | ((with_reducible refine optm_var (fv_strL (by assumption) (by assumption)) (fun s hs => ?_)); conv => whnf)
        | ((with_reducible refine forceA_of ?_); conv => whnf)
        | ((with_reducible refine forceL_pl (by assumption) ?_); conv => whnf)
        | ((with_reducible refine forceL_rpl (by assumption) ?_); conv => whnf)
        | ((with_reducible apply optm_of); (· first | exact g0 | exact g1 | exact g2 | exact g3 | exact g4 | exact g5 | exact g6); conv => whnf)
        | fail)
      rw [hz3l]
      refine needm_of (decide_eq_true (by rw [hll, s3]; simp; omega)) ?_
      conv => whnf
      repeat' (first
        | rw [← hz1]
        | rw [← hz2]
        | rw [← hz3]
        | ((with_reducible refine forceL_of (l := z1) ?_); conv => whnf)
        | ((with_reducible refine forceL_to (l' := z1) ?_ ?_); (· rw [hz1]; rfl); conv => whnf)
        | ((with_reducible apply optm_of); (· first | exact y1 | exact y2); conv => whnf)
        | ((with_reducible refine regx_of ?_ ?_); (· decide +kernel); conv => whnf)
        | ((with_reducible refine growx_pre ?_ ?_); (· exact ⟨_, rfl⟩); conv => whnf)
        | ((with_reducible refine needm_of ?_ ?_); (· first | assumption | exact decide_eq_true (by omega) | exact mkOK_of (by decide) | decide +kernel | (refine decide_eq_true ?_; simp (disch := omega) only [i64w]; omega)); conv => whnf)
        | ((with_reducible refine condm_pos ?_ ?_); (· assumption); conv => whnf)
        | ((with_reducible refine condm_neg ?_ ?_); (· assumption); conv => whnf)
        | ((with_reducible refine forceL_fv (by assumption) ?_); conv => whnf)
        | ((with_reducible refine forceL_rfv (by assumption) ?_); conv => whnf)
        | ((with_reducible refine forceNm_of ?_); conv => whnf)
        | ((with_reducible refine needm_of (fv_lenL (by assumption) (by assumption)) ?_); conv => whnf)
        | ((with_reducible refine optm_var (fv_strL (by assumption) (by assumption)) (fun s hs => ?_)); conv => whnf)
        | ((with_reducible refine forceA_of ?_); conv => whnf)
        | ((with_reducible refine forceL_pl (by assumption) ?_); conv => whnf)
        | ((with_reducible refine forceL_rpl (by assumption) ?_); conv => whnf)
        | ((with_reducible apply optm_of); (· first | exact g0 | exact g1 | exact g2 | exact g3 | exact g4 | exact g5 | exact g6); conv => whnf)
        | fail)
      refine forceL_var (l' := i64s (upTo (i + 1) ++ List.replicate (n - (i + 1)) 0)) ?_ (fun ls2 hls2 => ?_)
      · rw [s3, Nat.zero_add, Nat.mul_one, i64s_in hls (upTo_length i).symm (by rw [List.length_replicate]; omega), upTo_succ, List.tail_replicate, Nat.sub_sub]
      have hq2 := Pl.i64 hls2
      conv => whnf
      repeat' (first
        | rw [← hz1]
        | rw [← hz2]
        | rw [← hz3]
        | ((with_reducible refine forceL_of (l := z1) ?_); conv => whnf)
        | ((with_reducible refine forceL_to (l' := z1) ?_ ?_); (· rw [hz1]; rfl); conv => whnf)
        | ((with_reducible apply optm_of); (· first | exact y1 | exact y2); conv => whnf)
        | ((with_reducible refine regx_of ?_ ?_); (· decide +kernel); conv => whnf)
        | ((with_reducible refine growx_pre ?_ ?_); (· exact ⟨_, rfl⟩); conv => whnf)
        | ((with_reducible refine needm_of ?_ ?_); (· first | assumption | exact decide_eq_true (by omega) | exact mkOK_of (by decide) | decide +kernel | (refine decide_eq_true ?_; simp (disch := omega) only [i64w]; omega)); conv => whnf)
        | ((with_reducible refine condm_pos ?_ ?_); (· assumption); conv => whnf)
        | ((with_reducible refine condm_neg ?_ ?_); (· assumption); conv => whnf)
        | ((with_reducible refine forceL_fv (by assumption) ?_); conv => whnf)
        | ((with_reducible refine forceL_rfv (by assumption) ?_); conv => whnf)
        | ((with_reducible refine forceNm_of ?_); conv => whnf)
        | ((with_reducible refine needm_of (fv_lenL (by assumption) (by assumption)) ?_); conv => whnf)
        | ((with_reducible refine optm_var (fv_strL (by assumption) (by assumption)) (fun s hs => ?_)); conv => whnf)
        | ((with_reducible refine forceA_of ?_); conv => whnf)
        | ((with_reducible refine forceL_pl (by assumption) ?_); conv => whnf)
        | ((with_reducible refine forceL_rpl (by assumption) ?_); conv => whnf)
        | ((with_reducible apply optm_of); (· first | exact g0 | exact g1 | exact g2 | exact g3 | exact g4 | exact g5 | exact g6); conv => whnf)
        | fail)
      refine ⟨n - (i + 1), by omega, Into.weak [0, 1, 2, 3, 4] [(2, .a (.ptr 2 0)), (3, .a (.ptr 3 0)), (5, .a (.slc 4 0 (i + 1) n)), (21, .a (.int .i64 n)), (22, .a (.int .i64 ((i + 1 : Nat) : Int)))] [.cells cs 73 mk, .cells [.slc 0 0 n n] 68 false, .cells z1 32 false, .cells z2 23 false, .cells ls2 3 false] ⟨i + 1, ls2, by omega, rfl, hls2, rfl, rfl⟩ ⟨rfl, rfl, rfl, rfl, congrArg (fun z => some (V.a (.int .i64 z))) e4, trivial⟩ ⟨ren_pl hp _ _ _, rfl, ez1 _ rfl, ren_pl hzp _ _ _, ren_pl hq2 _ _ _, trivial⟩ (by simp [nodupb, baseb, Ob.okb, frmOk, V.okb, A.okb, hp.2, hq2.2, hzp.2, oz1] <;> decide)⟩
    · have hin : i = n := by have := of_decide_eq_false h; omega
      rw [hin, Nat.sub_self, List.replicate_zero] at hls
      conv => whnf
      repeat' (first
        | rw [← hz1]
        | rw [← hz2]
        | rw [← hz3]
        | ((with_reducible refine forceL_of (l := z1) ?_); conv => whnf)
        | ((with_reducible refine forceL_to (l' := z1) ?_ ?_); (· rw [hz1]; rfl); conv => whnf)
        | ((with_reducible apply optm_of); (· first | exact y1 | exact y2); conv => whnf)
        | ((with_reducible refine regx_of ?_ ?_); (· decide +kernel); conv => whnf)
        | ((with_reducible refine growx_pre ?_ ?_); (· exact ⟨_, rfl⟩); conv => whnf)
        | ((with_reducible refine needm_of ?_ ?_); (· first | assumption | exact decide_eq_true (by omega) | exact mkOK_of (by decide) | decide +kernel | (refine decide_eq_true ?_; simp (disch := omega) only [i64w]; omega)); conv => whnf)
        | ((with_reducible refine condm_pos ?_ ?_); (· assumption); conv => whnf)
        | ((with_reducible refine condm_neg ?_ ?_); (· assumption); conv => whnf)
        | ((with_reducible refine forceL_fv (by assumption) ?_); conv => whnf)
        | ((with_reducible refine forceL_rfv (by assumption) ?_); conv => whnf)
        | ((with_reducible refine forceNm_of ?_); conv => whnf)
        | ((with_reducible refine needm_of (fv_lenL (by assumption) (by assumption)) ?_); conv => whnf)
        | ((with_reducible refine optm_var (fv_strL (by assumption) (by assumption)) (fun s hs => ?_)); conv => whnf)
        | ((with_reducible refine forceA_of ?_); conv => whnf)
        | ((with_reducible refine forceL_pl (by assumption) ?_); conv => whnf)
        | ((with_reducible refine forceL_rpl (by assumption) ?_); conv => whnf)
        | ((with_reducible apply optm_of); (· first | exact g0 | exact g1 | exact g2 | exact g3 | exact g4 | exact g5 | exact g6); conv => whnf)
        | fail)
      refine loopx_of (fun m F H => ∃ (L J X Y : List Int) (ls xs : List A) (l : A) (cap : Nat), L.length = m ∧ ls = i64s (L ++ J) ∧ (L ++ J).length = n ∧ Sel (sk P now) n X L ∧ F = [(2, .a (.ptr 2 0)), (3, .a (.ptr 3 0)), (5, .a (.slc 4 0 m n)), (7, .a l)] ∧
        ((X = [] ∧ l = .nils ∧ H = [.cells cs 73 mk, .cells [.slc 0 0 n n] 68 false, .cells z1 32 false, .cells z2 23 false, .cells ls 3 false]) ∨
         (X ≠ [] ∧ xs = i64s (X ++ Y) ∧ cap = X.length + Y.length ∧ l = .slc 5 0 X.length cap ∧ H = [.cells cs 73 mk, .cells [.slc 0 0 n n] 68 false, .cells z1 32 false, .cells z2 23 false, .cells ls 3 false, .cells xs 3 false]))) n ?_ ?_
      · exact Into.weak [0, 1, 2, 3, 4] [(2, .a (.ptr 2 0)), (3, .a (.ptr 3 0)), (5, .a (.slc 4 0 n n)), (7, .a .nils)] [.cells cs 73 mk, .cells [.slc 0 0 n n] 68 false, .cells z1 32 false, .cells z2 23 false, .cells ls 3 false] ⟨upTo n, [], [], [], ls, [], .nils, 0, upTo_length n, hls, by rw [List.append_nil, upTo_length], Sel.zero _ n, rfl, .inl ⟨rfl, rfl, rfl⟩⟩ ⟨rfl, rfl, congrArg (fun m => some (V.a (.slc 4 0 m n))) hin, rfl, trivial⟩ ⟨ren_pl hp _ _ _, rfl, ez1 _ rfl, ren_pl hzp _ _ _, ren_pl hq _ _ _, trivial⟩ (by simp [nodupb, baseb, Ob.okb, frmOk, V.okb, A.okb, hp.2, hq.2, hzp.2, oz1] <;> decide)
      · clear h hls hq hll ls hin hi i
        rintro m F H ⟨L, J, X, Y, ls, xs, l, cap, hLm, hls, hLJ, hS, rfl, hH⟩
        have hq := Pl.i64 hls
        have hll : ls.length = n := by rw [hls, i64s_length, hLJ]
        have hXL := hS.len
        subst hLm
        rcases hH with ⟨rfl, rfl, rfl⟩ | ⟨hX0, hxs, hcap, rfl, rfl⟩
        ·
          conv => whnf
          repeat' (first
            | rw [← hz1]
            | rw [← hz2]
            | rw [← hz3]
            | ((with_reducible refine forceL_of (l := z1) ?_); conv => whnf)
            | ((with_reducible refine forceL_to (l' := z1) ?_ ?_); (· rw [hz1]; rfl); conv => whnf)
            | ((with_reducible apply optm_of); (· first | exact y1 | exact y2); conv => whnf)
            | ((with_reducible refine regx_of ?_ ?_); (· decide +kernel); conv => whnf)
            | ((with_reducible refine growx_pre ?_ ?_); (· exact ⟨_, rfl⟩); conv => whnf)
            | ((with_reducible refine needm_of ?_ ?_); (· first | assumption | exact decide_eq_true (by omega) | exact mkOK_of (by decide) | decide +kernel | (refine decide_eq_true ?_; simp (disch := omega) only [i64w]; omega)); conv => whnf)
            | ((with_reducible refine condm_pos ?_ ?_); (· assumption); conv => whnf)
            | ((with_reducible refine condm_neg ?_ ?_); (· assumption); conv => whnf)
            | ((with_reducible refine forceL_fv (by assumption) ?_); conv => whnf)
            | ((with_reducible refine forceL_rfv (by assumption) ?_); conv => whnf)
            | ((with_reducible refine forceNm_of ?_); conv => whnf)
            | ((with_reducible refine needm_of (fv_lenL (by assumption) (by assumption)) ?_); conv => whnf)
            | ((with_reducible refine optm_var (fv_strL (by assumption) (by assumption)) (fun s hs => ?_)); conv => whnf)
            | ((with_reducible refine forceA_of ?_); conv => whnf)
            | ((with_reducible refine forceL_pl (by assumption) ?_); conv => whnf)
            | ((with_reducible refine forceL_rpl (by assumption) ?_); conv => whnf)
            | ((with_reducible apply optm_of); (· first | exact g0 | exact g1 | exact g2 | exact g3 | exact g4 | exact g5 | exact g6); conv => whnf)
            | fail)
          refine condm_of (fun h => ?_) (fun h => ?_)
          ·
            conv => whnf
            repeat' (first
              | rw [← hz1]
              | rw [← hz2]
              | rw [← hz3]
              | ((with_reducible refine forceL_of (l := z1) ?_); conv => whnf)
              | ((with_reducible refine forceL_to (l' := z1) ?_ ?_); (· rw [hz1]; rfl); conv => whnf)
              | ((with_reducible apply optm_of); (· first | exact y1 | exact y2); conv => whnf)
              | ((with_reducible refine regx_of ?_ ?_); (· decide +kernel); conv => whnf)
              | ((with_reducible refine growx_pre ?_ ?_); (· exact ⟨_, rfl⟩); conv => whnf)
              | ((with_reducible refine needm_of ?_ ?_); (· first | assumption | exact decide_eq_true (by omega) | exact mkOK_of (by decide) | decide +kernel | (refine decide_eq_true ?_; simp (disch := omega) only [i64w]; omega)); conv => whnf)
              | ((with_reducible refine condm_pos ?_ ?_); (· assumption); conv => whnf)
              | ((with_reducible refine condm_neg ?_ ?_); (· assumption); conv => whnf)
              | ((with_reducible refine forceL_fv (by assumption) ?_); conv => whnf)
              | ((with_reducible refine forceL_rfv (by assumption) ?_); conv => whnf)
              | ((with_reducible refine forceNm_of ?_); conv => whnf)
              | ((with_reducible refine needm_of (fv_lenL (by assumption) (by assumption)) ?_); conv => whnf)
              | ((with_reducible refine optm_var (fv_strL (by assumption) (by assumption)) (fun s hs => ?_)); conv => whnf)
              | ((with_reducible refine forceA_of ?_); conv => whnf)
              | ((with_reducible refine forceL_pl (by assumption) ?_); conv => whnf)
              | ((with_reducible refine forceL_rpl (by assumption) ?_); conv => whnf)
              | ((with_reducible apply optm_of); (· first | exact g0 | exact g1 | exact g2 | exact g3 | exact g4 | exact g5 | exact g6); conv => whnf)
              | fail)
            refine Go.Eng.Fn.frame [0, 1, 2, 3, 4] (by rfl) (by exact ⟨ren_pl hp _ _ _, rfl, ez1 _ rfl, ren_pl hzp _ _ _, ren_pl hq _ _ _, trivial⟩) (by simp [nodupb, V.okb, A.okb, Ob.okb, hp.2, hq.2, hzp.2, oz1] <;> decide) (first42z P cs n mk hcs hn hn5 now L J ls L.length n false hls rfl (by have := of_decide_eq_true h; omega) (by omega) z1 z2 hz1 hz2 (fun k hk hbest => ?_))
            obtain ⟨x, hx⟩ : ∃ x, L[k]? = some x := ⟨_, List.getElem?_eq_getElem hk⟩
            have hx' : (L ++ J)[k]? = some x := by rw [List.getElem?_append_left hk]; exact hx
            have g0 : ls[0 + (k : Int).toNat * Try.prog.types[3].size]? = some (.int .i64 x) := by rw [s3, Int.toNat_natCast, Nat.zero_add, Nat.mul_one]; exact i64s_get hls hx'
            have d0 : decide (0 ≤ (k : Int) ∧ (k : Int) < (L.length : Int)) = true := decide_eq_true (by omega)
            have hn0 := hS.step hbest hx
            obtain ⟨z3, hz3⟩ : ∃ z : List A, z = [.int .i64 x] := ⟨_, rfl⟩
            have hz3p : Pl z3 := by rw [hz3]; exact ⟨fun _ => rfl, fun _ => rfl⟩
            have hz3l : List.drop 0 (List.take (0 + 1 * Try.prog.types[3].size) z3) = [.int .i64 x] := by rw [hz3]; rfl
            conv => whnf
            repeat' (first
              | rw [← hz1]
              | rw [← hz2]
              | rw [← hz3]
              | ((with_reducible refine forceL_of (l := z1) ?_); conv => whnf)
              | ((with_reducible refine forceL_to (l' := z1) ?_ ?_); (· rw [hz1]; rfl); conv => whnf)
              | ((with_reducible apply optm_of); (· first | exact y1 | exact y2); conv => whnf)
              | ((with_reducible refine regx_of ?_ ?_); (· decide +kernel); conv => whnf)
              | ((with_reducible refine growx_pre ?_ ?_); (· exact ⟨_, rfl⟩); conv => whnf)
              | ((with_reducible refine needm_of ?_ ?_); (· first | assumption | exact decide_eq_true (by omega) | exact mkOK_of (by decide) | decide +kernel | (refine decide_eq_true ?_; simp (disch := omega) only [i64w]; omega)); conv => whnf)
              | ((with_reducible refine condm_pos ?_ ?_); (· assumption); conv => whnf)
              | ((with_reducible refine condm_neg ?_ ?_); (· assumption); conv => whnf)
              | ((with_reducible refine forceL_fv (by assumption) ?_); conv => whnf)
              | ((with_reducible refine forceL_rfv (by assumption) ?_); conv => whnf)
              | ((with_reducible refine forceNm_of ?_); conv => whnf)
              | ((with_reducible refine needm_of (fv_lenL (by assumption) (by assumption)) ?_); conv => whnf)
              | ((with_reducible refine optm_var (fv_strL (by assumption) (by assumption)) (fun s hs => ?_)); conv => whnf)
              | ((with_reducible refine forceA_of ?_); conv => whnf)
              | ((with_reducible refine forceL_pl (by assumption) ?_); conv => whnf)
              | ((with_reducible refine forceL_rpl (by assumption) ?_); conv => whnf)
              | ((with_reducible apply optm_of); (· first | exact g0 | exact g1 | exact g2 | exact g3 | exact g4 | exact g5 | exact g6); conv => whnf)
              | fail)
            refine forceL_to (l' := z3) (by rw [hz3]; rfl) ?_
            conv => whnf
            repeat' (first
              | rw [← hz1]
              | rw [← hz2]
              | rw [← hz3]
              | ((with_reducible refine forceL_of (l := z1) ?_); conv => whnf)
              | ((with_reducible refine forceL_to (l' := z1) ?_ ?_); (· rw [hz1]; rfl); conv => whnf)
              | ((with_reducible apply optm_of); (· first | exact y1 | exact y2); conv => whnf)
              | ((with_reducible refine regx_of ?_ ?_); (· decide +kernel); conv => whnf)
              | ((with_reducible refine growx_pre ?_ ?_); (· exact ⟨_, rfl⟩); conv => whnf)
              | ((with_reducible refine needm_of ?_ ?_); (· first | assumption | exact decide_eq_true (by omega) | exact mkOK_of (by decide) | decide +kernel | (refine decide_eq_true ?_; simp (disch := omega) only [i64w]; omega)); conv => whnf)
              | ((with_reducible refine condm_pos ?_ ?_); (· assumption); conv => whnf)
              | ((with_reducible refine condm_neg ?_ ?_); (· assumption); conv => whnf)
              | ((with_reducible refine forceL_fv (by assumption) ?_); conv => whnf)
              | ((with_reducible refine forceL_rfv (by assumption) ?_); conv => whnf)
              | ((with_reducible refine forceNm_of ?_); conv => whnf)
              | ((with_reducible refine needm_of (fv_lenL (by assumption) (by assumption)) ?_); conv => whnf)
              | ((with_reducible refine optm_var (fv_strL (by assumption) (by assumption)) (fun s hs => ?_)); conv => whnf)
              | ((with_reducible refine forceA_of ?_); conv => whnf)
              | ((with_reducible refine forceL_pl (by assumption) ?_); conv => whnf)
              | ((with_reducible refine forceL_rpl (by assumption) ?_); conv => whnf)
              | ((with_reducible apply optm_of); (· first | exact g0 | exact g1 | exact g2 | exact g3 | exact g4 | exact g5 | exact g6); conv => whnf)
              | fail)
            refine needm_of (decide_eq_true (by rw [hz3, s3]; simp)) ?_
            intro cap1 hcap1
            conv => whnf
            repeat' (first
              | rw [← hz1]
              | rw [← hz2]
              | rw [← hz3]
              | ((with_reducible refine forceL_of (l := z1) ?_); conv => whnf)
              | ((with_reducible refine forceL_to (l' := z1) ?_ ?_); (· rw [hz1]; rfl); conv => whnf)
              | ((with_reducible apply optm_of); (· first | exact y1 | exact y2); conv => whnf)
              | ((with_reducible refine regx_of ?_ ?_); (· decide +kernel); conv => whnf)
              | ((with_reducible refine growx_pre ?_ ?_); (· exact ⟨_, rfl⟩); conv => whnf)
              | ((with_reducible refine needm_of ?_ ?_); (· first | assumption | exact decide_eq_true (by omega) | exact mkOK_of (by decide) | decide +kernel | (refine decide_eq_true ?_; simp (disch := omega) only [i64w]; omega)); conv => whnf)
              | ((with_reducible refine condm_pos ?_ ?_); (· assumption); conv => whnf)
              | ((with_reducible refine condm_neg ?_ ?_); (· assumption); conv => whnf)
              | ((with_reducible refine forceL_fv (by assumption) ?_); conv => whnf)
              | ((with_reducible refine forceL_rfv (by assumption) ?_); conv => whnf)
              | ((with_reducible refine forceNm_of ?_); conv => whnf)
              | ((with_reducible refine needm_of (fv_lenL (by assumption) (by assumption)) ?_); conv => whnf)
              | ((with_reducible refine optm_var (fv_strL (by assumption) (by assumption)) (fun s hs => ?_)); conv => whnf)
              | ((with_reducible refine forceA_of ?_); conv => whnf)
              | ((with_reducible refine forceL_pl (by assumption) ?_); conv => whnf)
              | ((with_reducible refine forceL_rpl (by assumption) ?_); conv => whnf)
              | ((with_reducible apply optm_of); (· first | exact g0 | exact g1 | exact g2 | exact g3 | exact g4 | exact g5 | exact g6); conv => whnf)
              | fail)
            refine forceL_var (l' := i64s ([x] ++ List.replicate (cap1 - 1) 0)) ?_ (fun xs1 hxs1 => ?_)
            · rw [hz3l, s3, Nat.mul_one, i64s_one, i64s_zeros, ← i64s_append]
            have hr1 := Pl.i64 hxs1
            have e1 : IntKind.i64.wrap ((k : Int) + 1) = ((k + 1 : Nat) : Int) := by rw [i64w (by omega) (by omega)]; rfl
            have d1 : decide (0 ≤ (k : Int) ∧ (k : Int) ≤ (n : Int)) = true := decide_eq_true (by omega)
            have d2 : decide (0 ≤ IntKind.i64.wrap ((k : Int) + 1) ∧ IntKind.i64.wrap ((k : Int) + 1) ≤ (L.length : Int)) = true := by rw [e1]; exact decide_eq_true (by omega)
            have hk1 : (IntKind.i64.wrap ((k : Int) + 1)).toNat = k + 1 := by rw [e1, Int.toNat_natCast]
            have hkk : ((k : Int)).toNat = k := Int.toNat_natCast k
            have e3 : (if n = 0 then 0 else 0 + 0 * Try.prog.types[3].size) = 0 := by split <;> simp
            have hnew : List.drop (if n = k + 1 then 0 else 0 + (k + 1) * Try.prog.types[3].size) (List.take ((if n = k + 1 then 0 else 0 + (k + 1) * Try.prog.types[3].size) + (L.length - (k + 1)) * Try.prog.types[3].size) ls) = i64s (L.drop (k + 1)) := sel_src hls (by omega) (by omega)
            have hdl : (i64s (L.drop (k + 1))).length = L.length - (k + 1) := by rw [i64s_length, List.length_drop]
            have d3 : decide (k - 0 + (L.length - (k + 1)) ≤ n - 0) = true := decide_eq_true (by omega)
            conv => whnf
            repeat' (first
              | rw [← hz1]
              | rw [← hz2]
              | rw [← hz3]
              | ((with_reducible refine forceL_of (l := z1) ?_); conv => whnf)
              | ((with_reducible refine forceL_to (l' := z1) ?_ ?_); (· rw [hz1]; rfl); conv => whnf)
              | ((with_reducible apply optm_of); (· first | exact y1 | exact y2); conv => whnf)
              | ((with_reducible refine regx_of ?_ ?_); (· decide +kernel); conv => whnf)
              | ((with_reducible refine growx_pre ?_ ?_); (· exact ⟨_, rfl⟩); conv => whnf)
              | ((with_reducible refine needm_of ?_ ?_); (· first | assumption | exact decide_eq_true (by omega) | exact mkOK_of (by decide) | decide +kernel | (refine decide_eq_true ?_; simp (disch := omega) only [i64w]; omega)); conv => whnf)
              | ((with_reducible refine condm_pos ?_ ?_); (· assumption); conv => whnf)
              | ((with_reducible refine condm_neg ?_ ?_); (· assumption); conv => whnf)
              | ((with_reducible refine forceL_fv (by assumption) ?_); conv => whnf)
              | ((with_reducible refine forceL_rfv (by assumption) ?_); conv => whnf)
              | ((with_reducible refine forceNm_of ?_); conv => whnf)
              | ((with_reducible refine needm_of (fv_lenL (by assumption) (by assumption)) ?_); conv => whnf)
              | ((with_reducible refine optm_var (fv_strL (by assumption) (by assumption)) (fun s hs => ?_)); conv => whnf)
              | ((with_reducible refine forceA_of ?_); conv => whnf)
              | ((with_reducible refine forceL_pl (by assumption) ?_); conv => whnf)
              | ((with_reducible refine forceL_rpl (by assumption) ?_); conv => whnf)
              | ((with_reducible apply optm_of); (· first | exact g0 | exact g1 | exact g2 | exact g3 | exact g4 | exact g5 | exact g6); conv => whnf)
              | fail)
            rw [hk1, hkk, e3]
            refine needm_of (decide_eq_true (by rw [s3, hll]; split <;> omega)) ?_
            conv => whnf
            rw [hnew]
            refine condm_pos d3 ?_
            conv => whnf
            refine needm_of (decide_eq_true (by rw [s3, hll, hdl]; omega)) ?_
            conv => whnf
            repeat' (first
              | rw [← hz1]
              | rw [← hz2]
              | rw [← hz3]
              | ((with_reducible refine forceL_of (l := z1) ?_); conv => whnf)
              | ((with_reducible refine forceL_to (l' := z1) ?_ ?_); (· rw [hz1]; rfl); conv => whnf)
              | ((with_reducible apply optm_of); (· first | exact y1 | exact y2); conv => whnf)
              | ((with_reducible refine regx_of ?_ ?_); (· decide +kernel); conv => whnf)
              | ((with_reducible refine growx_pre ?_ ?_); (· exact ⟨_, rfl⟩); conv => whnf)
              | ((with_reducible refine needm_of ?_ ?_); (· first | assumption | exact decide_eq_true (by omega) | exact mkOK_of (by decide) | decide +kernel | (refine decide_eq_true ?_; simp (disch := omega) only [i64w]; omega)); conv => whnf)
              | ((with_reducible refine condm_pos ?_ ?_); (· assumption); conv => whnf)
              | ((with_reducible refine condm_neg ?_ ?_); (· assumption); conv => whnf)
              | ((with_reducible refine forceL_fv (by assumption) ?_); conv => whnf)
              | ((with_reducible refine forceL_rfv (by assumption) ?_); conv => whnf)
              | ((with_reducible refine forceNm_of ?_); conv => whnf)
              | ((with_reducible refine needm_of (fv_lenL (by assumption) (by assumption)) ?_); conv => whnf)
              | ((with_reducible refine optm_var (fv_strL (by assumption) (by assumption)) (fun s hs => ?_)); conv => whnf)
              | ((with_reducible refine forceA_of ?_); conv => whnf)
              | ((with_reducible refine forceL_pl (by assumption) ?_); conv => whnf)
              | ((with_reducible refine forceL_rpl (by assumption) ?_); conv => whnf)
              | ((with_reducible apply optm_of); (· first | exact g0 | exact g1 | exact g2 | exact g3 | exact g4 | exact g5 | exact g6); conv => whnf)
              | fail)
            refine forceL_var (l' := i64s (L.eraseIdx k ++ (L ++ J).drop (L.length - 1))) ?_ (fun ls2 hls2 => ?_)
            · rw [s3, i64s_over hls (by rw [List.length_drop, hLJ]; omega), Nat.sub_zero, Nat.mul_one, Nat.zero_add, List.take_append_of_le_length (by omega), List.eraseIdx_eq_take_drop_succ, List.length_drop, show k + (L.length - (k + 1)) = L.length - 1 by omega]
            have hq2 := Pl.i64 hls2
            have hel : (L.eraseIdx k).length = L.length - 1 := by rw [List.length_eraseIdx, if_pos hk]
            have e5 : k - 0 + (L.length - (k + 1)) = L.length - 1 := by omega
            conv => whnf
            repeat' (first
              | rw [← hz1]
              | rw [← hz2]
              | rw [← hz3]
              | ((with_reducible refine forceL_of (l := z1) ?_); conv => whnf)
              | ((with_reducible refine forceL_to (l' := z1) ?_ ?_); (· rw [hz1]; rfl); conv => whnf)
              | ((with_reducible apply optm_of); (· first | exact y1 | exact y2); conv => whnf)
              | ((with_reducible refine regx_of ?_ ?_); (· decide +kernel); conv => whnf)
              | ((with_reducible refine growx_pre ?_ ?_); (· exact ⟨_, rfl⟩); conv => whnf)
              | ((with_reducible refine needm_of ?_ ?_); (· first | assumption | exact decide_eq_true (by omega) | exact mkOK_of (by decide) | decide +kernel | (refine decide_eq_true ?_; simp (disch := omega) only [i64w]; omega)); conv => whnf)
              | ((with_reducible refine condm_pos ?_ ?_); (· assumption); conv => whnf)
              | ((with_reducible refine condm_neg ?_ ?_); (· assumption); conv => whnf)
              | ((with_reducible refine forceL_fv (by assumption) ?_); conv => whnf)
              | ((with_reducible refine forceL_rfv (by assumption) ?_); conv => whnf)
              | ((with_reducible refine forceNm_of ?_); conv => whnf)
              | ((with_reducible refine needm_of (fv_lenL (by assumption) (by assumption)) ?_); conv => whnf)
              | ((with_reducible refine optm_var (fv_strL (by assumption) (by assumption)) (fun s hs => ?_)); conv => whnf)
              | ((with_reducible refine forceA_of ?_); conv => whnf)
              | ((with_reducible refine forceL_pl (by assumption) ?_); conv => whnf)
              | ((with_reducible refine forceL_rpl (by assumption) ?_); conv => whnf)
              | ((with_reducible apply optm_of); (· first | exact g0 | exact g1 | exact g2 | exact g3 | exact g4 | exact g5 | exact g6); conv => whnf)
              | fail)
            refine ⟨L.length - 1, by omega, Into.weak [0, 1, 2, 3, 4, 6] [(2, .a (.ptr 2 0)), (3, .a (.ptr 3 0)), (5, .a (.slc 4 0 (L.length - 1) n)), (7, .a (.slc 5 0 1 cap1))] [.cells cs 73 mk, .cells [.slc 0 0 n n] 68 false, .cells z1 32 false, .cells z2 23 false, .cells ls2 3 false, .cells xs1 3 false] ?_ ⟨rfl, rfl, congrArg (fun m => some (V.a (.slc 4 0 m n))) e5, rfl, trivial⟩ ⟨ren_pl hp _ _ _, rfl, ez1 _ rfl, ren_pl hzp _ _ _, ren_pl hq2 _ _ _, ren_pl hr1 _ _ _, trivial⟩ (by simp [nodupb, baseb, Ob.okb, frmOk, V.okb, A.okb, hp.2, hq2.2, hr1.2, hzp.2, oz1] <;> decide)⟩
            exact ⟨L.eraseIdx k, (L ++ J).drop (L.length - 1), [x], List.replicate (cap1 - 1) 0, ls2, xs1, .slc 5 0 1 cap1, cap1, hel, hls2, by rw [List.length_append, hel, List.length_drop, hLJ]; omega, hn0, rfl, .inr ⟨by simp, hxs1, by rw [List.length_replicate]; simp; omega, rfl, rfl⟩⟩
          · exfalso
            have := of_decide_eq_false h
            simp at hXL
            omega
        · have hr := Pl.i64 hxs
          have hxl : xs.length = X.length + Y.length := by rw [hxs, i64s_length, List.length_append]
          conv => whnf
          repeat' (first
            | rw [← hz1]
            | rw [← hz2]
            | rw [← hz3]
            | ((with_reducible refine forceL_of (l := z1) ?_); conv => whnf)
            | ((with_reducible refine forceL_to (l' := z1) ?_ ?_); (· rw [hz1]; rfl); conv => whnf)
            | ((with_reducible apply optm_of); (· first | exact y1 | exact y2); conv => whnf)
            | ((with_reducible refine regx_of ?_ ?_); (· decide +kernel); conv => whnf)
            | ((with_reducible refine growx_pre ?_ ?_); (· exact ⟨_, rfl⟩); conv => whnf)
            | ((with_reducible refine needm_of ?_ ?_); (· first | assumption | exact decide_eq_true (by omega) | exact mkOK_of (by decide) | decide +kernel | (refine decide_eq_true ?_; simp (disch := omega) only [i64w]; omega)); conv => whnf)
            | ((with_reducible refine condm_pos ?_ ?_); (· assumption); conv => whnf)
            | ((with_reducible refine condm_neg ?_ ?_); (· assumption); conv => whnf)
            | ((with_reducible refine forceL_fv (by assumption) ?_); conv => whnf)
            | ((with_reducible refine forceL_rfv (by assumption) ?_); conv => whnf)
            | ((with_reducible refine forceNm_of ?_); conv => whnf)
            | ((with_reducible refine needm_of (fv_lenL (by assumption) (by assumption)) ?_); conv => whnf)
            | ((with_reducible refine optm_var (fv_strL (by assumption) (by assumption)) (fun s hs => ?_)); conv => whnf)
            | ((with_reducible refine forceA_of ?_); conv => whnf)
            | ((with_reducible refine forceL_pl (by assumption) ?_); conv => whnf)
            | ((with_reducible refine forceL_rpl (by assumption) ?_); conv => whnf)
            | ((with_reducible apply optm_of); (· first | exact g0 | exact g1 | exact g2 | exact g3 | exact g4 | exact g5 | exact g6); conv => whnf)
            | fail)
          refine condm_of (fun h => ?_) (fun h => ?_)
          ·
            conv => whnf
            repeat' (first
              | rw [← hz1]
              | rw [← hz2]
              | rw [← hz3]
              | ((with_reducible refine forceL_of (l := z1) ?_); conv => whnf)
              | ((with_reducible refine forceL_to (l' := z1) ?_ ?_); (· rw [hz1]; rfl); conv => whnf)
              | ((with_reducible apply optm_of); (· first | exact y1 | exact y2); conv => whnf)
              | ((with_reducible refine regx_of ?_ ?_); (· decide +kernel); conv => whnf)
              | ((with_reducible refine growx_pre ?_ ?_); (· exact ⟨_, rfl⟩); conv => whnf)
              | ((with_reducible refine needm_of ?_ ?_); (· first | assumption | exact decide_eq_true (by omega) | exact mkOK_of (by decide) | decide +kernel | (refine decide_eq_true ?_; simp (disch := omega) only [i64w]; omega)); conv => whnf)
              | ((with_reducible refine condm_pos ?_ ?_); (· assumption); conv => whnf)
              | ((with_reducible refine condm_neg ?_ ?_); (· assumption); conv => whnf)
              | ((with_reducible refine forceL_fv (by assumption) ?_); conv => whnf)
              | ((with_reducible refine forceL_rfv (by assumption) ?_); conv => whnf)
              | ((with_reducible refine forceNm_of ?_); conv => whnf)
              | ((with_reducible refine needm_of (fv_lenL (by assumption) (by assumption)) ?_); conv => whnf)
              | ((with_reducible refine optm_var (fv_strL (by assumption) (by assumption)) (fun s hs => ?_)); conv => whnf)
              | ((with_reducible refine forceA_of ?_); conv => whnf)
              | ((with_reducible refine forceL_pl (by assumption) ?_); conv => whnf)
              | ((with_reducible refine forceL_rpl (by assumption) ?_); conv => whnf)
              | ((with_reducible apply optm_of); (· first | exact g0 | exact g1 | exact g2 | exact g3 | exact g4 | exact g5 | exact g6); conv => whnf)
              | fail)
            refine Go.Eng.Fn.frame [0, 1, 2, 3, 4] (by rfl) (by exact ⟨ren_pl hp _ _ _, rfl, ez1 _ rfl, ren_pl hzp _ _ _, ren_pl hq _ _ _, trivial⟩) (by simp [nodupb, V.okb, A.okb, Ob.okb, hp.2, hq.2, hzp.2, oz1] <;> decide) (first42z P cs n mk hcs hn hn5 now L J ls L.length n false hls rfl (by have := of_decide_eq_true h; omega) (by omega) z1 z2 hz1 hz2 (fun k hk hbest => ?_))
            obtain ⟨x, hx⟩ : ∃ x, L[k]? = some x := ⟨_, List.getElem?_eq_getElem hk⟩
            have hx' : (L ++ J)[k]? = some x := by rw [List.getElem?_append_left hk]; exact hx
            have g0 : ls[0 + (k : Int).toNat * Try.prog.types[3].size]? = some (.int .i64 x) := by rw [s3, Int.toNat_natCast, Nat.zero_add, Nat.mul_one]; exact i64s_get hls hx'
            have d0 : decide (0 ≤ (k : Int) ∧ (k : Int) < (L.length : Int)) = true := decide_eq_true (by omega)
            have hn0 := hS.step hbest hx
            obtain ⟨z3, hz3⟩ : ∃ z : List A, z = [.int .i64 x] := ⟨_, rfl⟩
            have hz3p : Pl z3 := by rw [hz3]; exact ⟨fun _ => rfl, fun _ => rfl⟩
            have hz3l : List.drop 0 (List.take (0 + 1 * Try.prog.types[3].size) z3) = [.int .i64 x] := by rw [hz3]; rfl
            conv => whnf
            repeat' (first
              | rw [← hz1]
              | rw [← hz2]
              | rw [← hz3]
              | ((with_reducible refine forceL_of (l := z1) ?_); conv => whnf)
              | ((with_reducible refine forceL_to (l' := z1) ?_ ?_); (· rw [hz1]; rfl); conv => whnf)
              | ((with_reducible apply optm_of); (· first | exact y1 | exact y2); conv => whnf)
              | ((with_reducible refine regx_of ?_ ?_); (· decide +kernel); conv => whnf)
              | ((with_reducible refine growx_pre ?_ ?_); (· exact ⟨_, rfl⟩); conv => whnf)
              | ((with_reducible refine needm_of ?_ ?_); (· first | assumption | exact decide_eq_true (by omega) | exact mkOK_of (by decide) | decide +kernel | (refine decide_eq_true ?_; simp (disch := omega) only [i64w]; omega)); conv => whnf)
              | ((with_reducible refine condm_pos ?_ ?_); (· assumption); conv => whnf)
              | ((with_reducible refine condm_neg ?_ ?_); (· assumption); conv => whnf)
              | ((with_reducible refine forceL_fv (by assumption) ?_); conv => whnf)
              | ((with_reducible refine forceL_rfv (by assumption) ?_); conv => whnf)
              | ((with_reducible refine forceNm_of ?_); conv => whnf)
              | ((with_reducible refine needm_of (fv_lenL (by assumption) (by assumption)) ?_); conv => whnf)
              | ((with_reducible refine optm_var (fv_strL (by assumption) (by assumption)) (fun s hs => ?_)); conv => whnf)
              | ((with_reducible refine forceA_of ?_); conv => whnf)
              | ((with_reducible refine forceL_pl (by assumption) ?_); conv => whnf)
              | ((with_reducible refine forceL_rpl (by assumption) ?_); conv => whnf)
              | ((with_reducible apply optm_of); (· first | exact g0 | exact g1 | exact g2 | exact g3 | exact g4 | exact g5 | exact g6); conv => whnf)
              | fail)
            refine forceL_to (l' := z3) (by rw [hz3]; rfl) ?_
            conv => whnf
            repeat' (first
              | rw [← hz1]
              | rw [← hz2]
              | rw [← hz3]
              | ((with_reducible refine forceL_of (l := z1) ?_); conv => whnf)
              | ((with_reducible refine forceL_to (l' := z1) ?_ ?_); (· rw [hz1]; rfl); conv => whnf)
              | ((with_reducible apply optm_of); (· first | exact y1 | exact y2); conv => whnf)
              | ((with_reducible refine regx_of ?_ ?_); (· decide +kernel); conv => whnf)
              | ((with_reducible refine growx_pre ?_ ?_); (· exact ⟨_, rfl⟩); conv => whnf)
              | ((with_reducible refine needm_of ?_ ?_); (· first | assumption | exact decide_eq_true (by omega) | exact mkOK_of (by decide) | decide +kernel | (refine decide_eq_true ?_; simp (disch := omega) only [i64w]; omega)); conv => whnf)
              | ((with_reducible refine condm_pos ?_ ?_); (· assumption); conv => whnf)
              | ((with_reducible refine condm_neg ?_ ?_); (· assumption); conv => whnf)
              | ((with_reducible refine forceL_fv (by assumption) ?_); conv => whnf)
              | ((with_reducible refine forceL_rfv (by assumption) ?_); conv => whnf)
              | ((with_reducible refine forceNm_of ?_); conv => whnf)
              | ((with_reducible refine needm_of (fv_lenL (by assumption) (by assumption)) ?_); conv => whnf)
              | ((with_reducible refine optm_var (fv_strL (by assumption) (by assumption)) (fun s hs => ?_)); conv => whnf)
              | ((with_reducible refine forceA_of ?_); conv => whnf)
              | ((with_reducible refine forceL_pl (by assumption) ?_); conv => whnf)
              | ((with_reducible refine forceL_rpl (by assumption) ?_); conv => whnf)
              | ((with_reducible apply optm_of); (· first | exact g0 | exact g1 | exact g2 | exact g3 | exact g4 | exact g5 | exact g6); conv => whnf)
              | fail)
            refine needm_of (decide_eq_true (by rw [hz3, s3]; simp)) ?_
            refine condm_of (fun h7 => ?_) (fun h7 => ?_)
            · have h7' := of_decide_eq_true h7
              refine needx_of (decide_eq_true (by rw [hz3l, s3, hxl]; simp; omega)) ?_
              conv => whnf
              repeat' (first
                | rw [← hz1]
                | rw [← hz2]
                | rw [← hz3]
                | ((with_reducible refine forceL_of (l := z1) ?_); conv => whnf)
                | ((with_reducible refine forceL_to (l' := z1) ?_ ?_); (· rw [hz1]; rfl); conv => whnf)
                | ((with_reducible apply optm_of); (· first | exact y1 | exact y2); conv => whnf)
                | ((with_reducible refine regx_of ?_ ?_); (· decide +kernel); conv => whnf)
                | ((with_reducible refine growx_pre ?_ ?_); (· exact ⟨_, rfl⟩); conv => whnf)
                | ((with_reducible refine needm_of ?_ ?_); (· first | assumption | exact decide_eq_true (by omega) | exact mkOK_of (by decide) | decide +kernel | (refine decide_eq_true ?_; simp (disch := omega) only [i64w]; omega)); conv => whnf)
                | ((with_reducible refine condm_pos ?_ ?_); (· assumption); conv => whnf)
                | ((with_reducible refine condm_neg ?_ ?_); (· assumption); conv => whnf)
                | ((with_reducible refine forceL_fv (by assumption) ?_); conv => whnf)
                | ((with_reducible refine forceL_rfv (by assumption) ?_); conv => whnf)
                | ((with_reducible refine forceNm_of ?_); conv => whnf)
                | ((with_reducible refine needm_of (fv_lenL (by assumption) (by assumption)) ?_); conv => whnf)
                | ((with_reducible refine optm_var (fv_strL (by assumption) (by assumption)) (fun s hs => ?_)); conv => whnf)
                | ((with_reducible refine forceA_of ?_); conv => whnf)
                | ((with_reducible refine forceL_pl (by assumption) ?_); conv => whnf)
                | ((with_reducible refine forceL_rpl (by assumption) ?_); conv => whnf)
                | ((with_reducible apply optm_of); (· first | exact g0 | exact g1 | exact g2 | exact g3 | exact g4 | exact g5 | exact g6); conv => whnf)
                | fail)
              refine forceL_var (l' := i64s (X ++ [x] ++ Y.tail)) (by rw [hz3l, s3, Nat.zero_add, Nat.mul_one]; exact i64s_in hxs rfl (by omega)) (fun xs1 hxs1 => ?_)
              have hr1 := Pl.i64 hxs1
              have e1 : IntKind.i64.wrap ((k : Int) + 1) = ((k + 1 : Nat) : Int) := by rw [i64w (by omega) (by omega)]; rfl
              have d1 : decide (0 ≤ (k : Int) ∧ (k : Int) ≤ (n : Int)) = true := decide_eq_true (by omega)
              have d2 : decide (0 ≤ IntKind.i64.wrap ((k : Int) + 1) ∧ IntKind.i64.wrap ((k : Int) + 1) ≤ (L.length : Int)) = true := by rw [e1]; exact decide_eq_true (by omega)
              have hk1 : (IntKind.i64.wrap ((k : Int) + 1)).toNat = k + 1 := by rw [e1, Int.toNat_natCast]
              have hkk : ((k : Int)).toNat = k := Int.toNat_natCast k
              have e3 : (if n = 0 then 0 else 0 + 0 * Try.prog.types[3].size) = 0 := by split <;> simp
              have hnew : List.drop (if n = k + 1 then 0 else 0 + (k + 1) * Try.prog.types[3].size) (List.take ((if n = k + 1 then 0 else 0 + (k + 1) * Try.prog.types[3].size) + (L.length - (k + 1)) * Try.prog.types[3].size) ls) = i64s (L.drop (k + 1)) := sel_src hls (by omega) (by omega)
              have hdl : (i64s (L.drop (k + 1))).length = L.length - (k + 1) := by rw [i64s_length, List.length_drop]
              have d3 : decide (k - 0 + (L.length - (k + 1)) ≤ n - 0) = true := decide_eq_true (by omega)
              conv => whnf
              repeat' (first
                | rw [← hz1]
                | rw [← hz2]
                | rw [← hz3]
                | ((with_reducible refine forceL_of (l := z1) ?_); conv => whnf)
                | ((with_reducible refine forceL_to (l' := z1) ?_ ?_); (· rw [hz1]; rfl); conv => whnf)
                | ((with_reducible apply optm_of); (· first | exact y1 | exact y2); conv => whnf)
                | ((with_reducible refine regx_of ?_ ?_); (· decide +kernel); conv => whnf)
                | ((with_reducible refine growx_pre ?_ ?_); (· exact ⟨_, rfl⟩); conv => whnf)
                | ((with_reducible refine needm_of ?_ ?_); (· first | assumption | exact decide_eq_true (by omega) | exact mkOK_of (by decide) | decide +kernel | (refine decide_eq_true ?_; simp (disch := omega) only [i64w]; omega)); conv => whnf)
                | ((with_reducible refine condm_pos ?_ ?_); (· assumption); conv => whnf)
                | ((with_reducible refine condm_neg ?_ ?_); (· assumption); conv => whnf)
                | ((with_reducible refine forceL_fv (by assumption) ?_); conv => whnf)
                | ((with_reducible refine forceL_rfv (by assumption) ?_); conv => whnf)
                | ((with_reducible refine forceNm_of ?_); conv => whnf)
                | ((with_reducible refine needm_of (fv_lenL (by assumption) (by assumption)) ?_); conv => whnf)
                | ((with_reducible refine optm_var (fv_strL (by assumption) (by assumption)) (fun s hs => ?_)); conv => whnf)
                | ((with_reducible refine forceA_of ?_); conv => whnf)
                | ((with_reducible refine forceL_pl (by assumption) ?_); conv => whnf)
                | ((with_reducible refine forceL_rpl (by assumption) ?_); conv => whnf)
                | ((with_reducible apply optm_of); (· first | exact g0 | exact g1 | exact g2 | exact g3 | exact g4 | exact g5 | exact g6); conv => whnf)
                | fail)
              rw [hk1, hkk, e3]
              refine needm_of (decide_eq_true (by rw [s3, hll]; split <;> omega)) ?_
              conv => whnf
              rw [hnew]
              refine condm_pos d3 ?_
              conv => whnf
              refine needm_of (decide_eq_true (by rw [s3, hll, hdl]; omega)) ?_
              conv => whnf
              repeat' (first
                | rw [← hz1]
                | rw [← hz2]
                | rw [← hz3]
                | ((with_reducible refine forceL_of (l := z1) ?_); conv => whnf)
                | ((with_reducible refine forceL_to (l' := z1) ?_ ?_); (· rw [hz1]; rfl); conv => whnf)
                | ((with_reducible apply optm_of); (· first | exact y1 | exact y2); conv => whnf)
                | ((with_reducible refine regx_of ?_ ?_); (· decide +kernel); conv => whnf)
                | ((with_reducible refine growx_pre ?_ ?_); (· exact ⟨_, rfl⟩); conv => whnf)
                | ((with_reducible refine needm_of ?_ ?_); (· first | assumption | exact decide_eq_true (by omega) | exact mkOK_of (by decide) | decide +kernel | (refine decide_eq_true ?_; simp (disch := omega) only [i64w]; omega)); conv => whnf)
                | ((with_reducible refine condm_pos ?_ ?_); (· assumption); conv => whnf)
                | ((with_reducible refine condm_neg ?_ ?_); (· assumption); conv => whnf)
                | ((with_reducible refine forceL_fv (by assumption) ?_); conv => whnf)
                | ((with_reducible refine forceL_rfv (by assumption) ?_); conv => whnf)
                | ((with_reducible refine forceNm_of ?_); conv => whnf)
                | ((with_reducible refine needm_of (fv_lenL (by assumption) (by assumption)) ?_); conv => whnf)
                | ((with_reducible refine optm_var (fv_strL (by assumption) (by assumption)) (fun s hs => ?_)); conv => whnf)
                | ((with_reducible refine forceA_of ?_); conv => whnf)
                | ((with_reducible refine forceL_pl (by assumption) ?_); conv => whnf)
                | ((with_reducible refine forceL_rpl (by assumption) ?_); conv => whnf)
                | ((with_reducible apply optm_of); (· first | exact g0 | exact g1 | exact g2 | exact g3 | exact g4 | exact g5 | exact g6); conv => whnf)
                | fail)
              refine forceL_var (l' := i64s (L.eraseIdx k ++ (L ++ J).drop (L.length - 1))) ?_ (fun ls2 hls2 => ?_)
              · rw [s3, i64s_over hls (by rw [List.length_drop, hLJ]; omega), Nat.sub_zero, Nat.mul_one, Nat.zero_add, List.take_append_of_le_length (by omega), List.eraseIdx_eq_take_drop_succ, List.length_drop, show k + (L.length - (k + 1)) = L.length - 1 by omega]
              have hq2 := Pl.i64 hls2
              have hel : (L.eraseIdx k).length = L.length - 1 := by rw [List.length_eraseIdx, if_pos hk]
              have e5 : k - 0 + (L.length - (k + 1)) = L.length - 1 := by omega
              conv => whnf
              repeat' (first
                | rw [← hz1]
                | rw [← hz2]
                | rw [← hz3]
                | ((with_reducible refine forceL_of (l := z1) ?_); conv => whnf)
                | ((with_reducible refine forceL_to (l' := z1) ?_ ?_); (· rw [hz1]; rfl); conv => whnf)
                | ((with_reducible apply optm_of); (· first | exact y1 | exact y2); conv => whnf)
                | ((with_reducible refine regx_of ?_ ?_); (· decide +kernel); conv => whnf)
                | ((with_reducible refine growx_pre ?_ ?_); (· exact ⟨_, rfl⟩); conv => whnf)
                | ((with_reducible refine needm_of ?_ ?_); (· first | assumption | exact decide_eq_true (by omega) | exact mkOK_of (by decide) | decide +kernel | (refine decide_eq_true ?_; simp (disch := omega) only [i64w]; omega)); conv => whnf)
                | ((with_reducible refine condm_pos ?_ ?_); (· assumption); conv => whnf)
                | ((with_reducible refine condm_neg ?_ ?_); (· assumption); conv => whnf)
                | ((with_reducible refine forceL_fv (by assumption) ?_); conv => whnf)
                | ((with_reducible refine forceL_rfv (by assumption) ?_); conv => whnf)
                | ((with_reducible refine forceNm_of ?_); conv => whnf)
                | ((with_reducible refine needm_of (fv_lenL (by assumption) (by assumption)) ?_); conv => whnf)
                | ((with_reducible refine optm_var (fv_strL (by assumption) (by assumption)) (fun s hs => ?_)); conv => whnf)
                | ((with_reducible refine forceA_of ?_); conv => whnf)
                | ((with_reducible refine forceL_pl (by assumption) ?_); conv => whnf)
                | ((with_reducible refine forceL_rpl (by assumption) ?_); conv => whnf)
                | ((with_reducible apply optm_of); (· first | exact g0 | exact g1 | exact g2 | exact g3 | exact g4 | exact g5 | exact g6); conv => whnf)
                | fail)
              refine ⟨L.length - 1, by omega, Into.weak [0, 1, 2, 3, 4, 5] [(2, .a (.ptr 2 0)), (3, .a (.ptr 3 0)), (5, .a (.slc 4 0 (L.length - 1) n)), (7, .a (.slc 5 0 (X.length + 1) cap))] [.cells cs 73 mk, .cells [.slc 0 0 n n] 68 false, .cells z1 32 false, .cells z2 23 false, .cells ls2 3 false, .cells xs1 3 false] ?_ ⟨rfl, rfl, congrArg (fun m => some (V.a (.slc 4 0 m n))) e5, rfl, trivial⟩ ⟨ren_pl hp _ _ _, rfl, ez1 _ rfl, ren_pl hzp _ _ _, ren_pl hq2 _ _ _, ren_pl hr1 _ _ _, trivial⟩ (by simp [nodupb, baseb, Ob.okb, frmOk, V.okb, A.okb, hp.2, hq2.2, hr1.2, hzp.2, oz1] <;> decide)⟩
              exact ⟨L.eraseIdx k, (L ++ J).drop (L.length - 1), X ++ [x], Y.tail, ls2, xs1, .slc 5 0 (X.length + 1) cap, cap, hel, hls2, by rw [List.length_append, hel, List.length_drop, hLJ]; omega, hn0, rfl, .inr ⟨by simp, hxs1, by simp; omega, by rw [List.length_append]; rfl, rfl⟩⟩
            · have h7' := of_decide_eq_false h7
              refine needx_of (decide_eq_true ⟨by rw [s3, hxl]; omega, by rw [b3]; omega, by omega⟩) ?_
              intro cap1 hcap1
              conv => whnf
              repeat' (first
                | rw [← hz1]
                | rw [← hz2]
                | rw [← hz3]
                | ((with_reducible refine forceL_of (l := z1) ?_); conv => whnf)
                | ((with_reducible refine forceL_to (l' := z1) ?_ ?_); (· rw [hz1]; rfl); conv => whnf)
                | ((with_reducible apply optm_of); (· first | exact y1 | exact y2); conv => whnf)
                | ((with_reducible refine regx_of ?_ ?_); (· decide +kernel); conv => whnf)
                | ((with_reducible refine growx_pre ?_ ?_); (· exact ⟨_, rfl⟩); conv => whnf)
                | ((with_reducible refine needm_of ?_ ?_); (· first | assumption | exact decide_eq_true (by omega) | exact mkOK_of (by decide) | decide +kernel | (refine decide_eq_true ?_; simp (disch := omega) only [i64w]; omega)); conv => whnf)
                | ((with_reducible refine condm_pos ?_ ?_); (· assumption); conv => whnf)
                | ((with_reducible refine condm_neg ?_ ?_); (· assumption); conv => whnf)
                | ((with_reducible refine forceL_fv (by assumption) ?_); conv => whnf)
                | ((with_reducible refine forceL_rfv (by assumption) ?_); conv => whnf)
                | ((with_reducible refine forceNm_of ?_); conv => whnf)
                | ((with_reducible refine needm_of (fv_lenL (by assumption) (by assumption)) ?_); conv => whnf)
                | ((with_reducible refine optm_var (fv_strL (by assumption) (by assumption)) (fun s hs => ?_)); conv => whnf)
                | ((with_reducible refine forceA_of ?_); conv => whnf)
                | ((with_reducible refine forceL_pl (by assumption) ?_); conv => whnf)
                | ((with_reducible refine forceL_rpl (by assumption) ?_); conv => whnf)
                | ((with_reducible apply optm_of); (· first | exact g0 | exact g1 | exact g2 | exact g3 | exact g4 | exact g5 | exact g6); conv => whnf)
                | fail)
              refine forceL_var (l' := i64s (X ++ [x] ++ List.replicate (cap1 - (X.length + 1)) 0)) (by rw [hz3l, s3, Nat.mul_one, Nat.mul_one]; exact i64s_new hxs rfl) (fun xs1 hxs1 => ?_)
              have hr1 := Pl.i64 hxs1
              have e1 : IntKind.i64.wrap ((k : Int) + 1) = ((k + 1 : Nat) : Int) := by rw [i64w (by omega) (by omega)]; rfl
              have d1 : decide (0 ≤ (k : Int) ∧ (k : Int) ≤ (n : Int)) = true := decide_eq_true (by omega)
              have d2 : decide (0 ≤ IntKind.i64.wrap ((k : Int) + 1) ∧ IntKind.i64.wrap ((k : Int) + 1) ≤ (L.length : Int)) = true := by rw [e1]; exact decide_eq_true (by omega)
              have hk1 : (IntKind.i64.wrap ((k : Int) + 1)).toNat = k + 1 := by rw [e1, Int.toNat_natCast]
              have hkk : ((k : Int)).toNat = k := Int.toNat_natCast k
              have e3 : (if n = 0 then 0 else 0 + 0 * Try.prog.types[3].size) = 0 := by split <;> simp
              have hnew : List.drop (if n = k + 1 then 0 else 0 + (k + 1) * Try.prog.types[3].size) (List.take ((if n = k + 1 then 0 else 0 + (k + 1) * Try.prog.types[3].size) + (L.length - (k + 1)) * Try.prog.types[3].size) ls) = i64s (L.drop (k + 1)) := sel_src hls (by omega) (by omega)
              have hdl : (i64s (L.drop (k + 1))).length = L.length - (k + 1) := by rw [i64s_length, List.length_drop]
              have d3 : decide (k - 0 + (L.length - (k + 1)) ≤ n - 0) = true := decide_eq_true (by omega)
              conv => whnf
              repeat' (first
                | rw [← hz1]
                | rw [← hz2]
                | rw [← hz3]
                | ((with_reducible refine forceL_of (l := z1) ?_); conv => whnf)
                | ((with_reducible refine forceL_to (l' := z1) ?_ ?_); (· rw [hz1]; rfl); conv => whnf)
                | ((with_reducible apply optm_of); (· first | exact y1 | exact y2); conv => whnf)
                | ((with_reducible refine regx_of ?_ ?_); (· decide +kernel); conv => whnf)
                | ((with_reducible refine growx_pre ?_ ?_); (· exact ⟨_, rfl⟩); conv => whnf)
                | ((with_reducible refine needm_of ?_ ?_); (· first | assumption | exact decide_eq_true (by omega) | exact mkOK_of (by decide) | decide +kernel | (refine decide_eq_true ?_; simp (disch := omega) only [i64w]; omega)); conv => whnf)
                | ((with_reducible refine condm_pos ?_ ?_); (· assumption); conv => whnf)
                | ((with_reducible refine condm_neg ?_ ?_); (· assumption); conv => whnf)
                | ((with_reducible refine forceL_fv (by assumption) ?_); conv => whnf)
                | ((with_reducible refine forceL_rfv (by assumption) ?_); conv => whnf)
                | ((with_reducible refine forceNm_of ?_); conv => whnf)
                | ((with_reducible refine needm_of (fv_lenL (by assumption) (by assumption)) ?_); conv => whnf)
                | ((with_reducible refine optm_var (fv_strL (by assumption) (by assumption)) (fun s hs => ?_)); conv => whnf)
                | ((with_reducible refine forceA_of ?_); conv => whnf)
                | ((with_reducible refine forceL_pl (by assumption) ?_); conv => whnf)
                | ((with_reducible refine forceL_rpl (by assumption) ?_); conv => whnf)
                | ((with_reducible apply optm_of); (· first | exact g0 | exact g1 | exact g2 | exact g3 | exact g4 | exact g5 | exact g6); conv => whnf)
                | fail)
              rw [hk1, hkk, e3]
              refine needm_of (decide_eq_true (by rw [s3, hll]; split <;> omega)) ?_
              conv => whnf
              rw [hnew]
              refine condm_pos d3 ?_
              conv => whnf
              refine needm_of (decide_eq_true (by rw [s3, hll, hdl]; omega)) ?_
              conv => whnf
              repeat' (first
                | rw [← hz1]
                | rw [← hz2]
                | rw [← hz3]
                | ((with_reducible refine forceL_of (l := z1) ?_); conv => whnf)
                | ((with_reducible refine forceL_to (l' := z1) ?_ ?_); (· rw [hz1]; rfl); conv => whnf)
                | ((with_reducible apply optm_of); (· first | exact y1 | exact y2); conv => whnf)
                | ((with_reducible refine regx_of ?_ ?_); (· decide +kernel); conv => whnf)
                | ((with_reducible refine growx_pre ?_ ?_); (· exact ⟨_, rfl⟩); conv => whnf)
                | ((with_reducible refine needm_of ?_ ?_); (· first | assumption | exact decide_eq_true (by omega) | exact mkOK_of (by decide) | decide +kernel | (refine decide_eq_true ?_; simp (disch := omega) only [i64w]; omega)); conv => whnf)
                | ((with_reducible refine condm_pos ?_ ?_); (· assumption); conv => whnf)
                | ((with_reducible refine condm_neg ?_ ?_); (· assumption); conv => whnf)
                | ((with_reducible refine forceL_fv (by assumption) ?_); conv => whnf)
                | ((with_reducible refine forceL_rfv (by assumption) ?_); conv => whnf)
                | ((with_reducible refine forceNm_of ?_); conv => whnf)
                | ((with_reducible refine needm_of (fv_lenL (by assumption) (by assumption)) ?_); conv => whnf)
                | ((with_reducible refine optm_var (fv_strL (by assumption) (by assumption)) (fun s hs => ?_)); conv => whnf)
                | ((with_reducible refine forceA_of ?_); conv => whnf)
                | ((with_reducible refine forceL_pl (by assumption) ?_); conv => whnf)
                | ((with_reducible refine forceL_rpl (by assumption) ?_); conv => whnf)
                | ((with_reducible apply optm_of); (· first | exact g0 | exact g1 | exact g2 | exact g3 | exact g4 | exact g5 | exact g6); conv => whnf)
                | fail)
              refine forceL_var (l' := i64s (L.eraseIdx k ++ (L ++ J).drop (L.length - 1))) ?_ (fun ls2 hls2 => ?_)
              · rw [s3, i64s_over hls (by rw [List.length_drop, hLJ]; omega), Nat.sub_zero, Nat.mul_one, Nat.zero_add, List.take_append_of_le_length (by omega), List.eraseIdx_eq_take_drop_succ, List.length_drop, show k + (L.length - (k + 1)) = L.length - 1 by omega]
              have hq2 := Pl.i64 hls2
              have hel : (L.eraseIdx k).length = L.length - 1 := by rw [List.length_eraseIdx, if_pos hk]
              have e5 : k - 0 + (L.length - (k + 1)) = L.length - 1 := by omega
              conv => whnf
              repeat' (first
                | rw [← hz1]
                | rw [← hz2]
                | rw [← hz3]
                | ((with_reducible refine forceL_of (l := z1) ?_); conv => whnf)
                | ((with_reducible refine forceL_to (l' := z1) ?_ ?_); (· rw [hz1]; rfl); conv => whnf)
                | ((with_reducible apply optm_of); (· first | exact y1 | exact y2); conv => whnf)
                | ((with_reducible refine regx_of ?_ ?_); (· decide +kernel); conv => whnf)
                | ((with_reducible refine growx_pre ?_ ?_); (· exact ⟨_, rfl⟩); conv => whnf)
                | ((with_reducible refine needm_of ?_ ?_); (· first | assumption | exact decide_eq_true (by omega) | exact mkOK_of (by decide) | decide +kernel | (refine decide_eq_true ?_; simp (disch := omega) only [i64w]; omega)); conv => whnf)
                | ((with_reducible refine condm_pos ?_ ?_); (· assumption); conv => whnf)
                | ((with_reducible refine condm_neg ?_ ?_); (· assumption); conv => whnf)
                | ((with_reducible refine forceL_fv (by assumption) ?_); conv => whnf)
                | ((with_reducible refine forceL_rfv (by assumption) ?_); conv => whnf)
                | ((with_reducible refine forceNm_of ?_); conv => whnf)
                | ((with_reducible refine needm_of (fv_lenL (by assumption) (by assumption)) ?_); conv => whnf)
                | ((with_reducible refine optm_var (fv_strL (by assumption) (by assumption)) (fun s hs => ?_)); conv => whnf)
                | ((with_reducible refine forceA_of ?_); conv => whnf)
                | ((with_reducible refine forceL_pl (by assumption) ?_); conv => whnf)
                | ((with_reducible refine forceL_rpl (by assumption) ?_); conv => whnf)
                | ((with_reducible apply optm_of); (· first | exact g0 | exact g1 | exact g2 | exact g3 | exact g4 | exact g5 | exact g6); conv => whnf)
                | fail)
              refine ⟨L.length - 1, by omega, Into.weak [0, 1, 2, 3, 4, 7] [(2, .a (.ptr 2 0)), (3, .a (.ptr 3 0)), (5, .a (.slc 4 0 (L.length - 1) n)), (7, .a (.slc 5 0 (X.length + 1) cap1))] [.cells cs 73 mk, .cells [.slc 0 0 n n] 68 false, .cells z1 32 false, .cells z2 23 false, .cells ls2 3 false, .cells xs1 3 false] ?_ ⟨rfl, rfl, congrArg (fun m => some (V.a (.slc 4 0 m n))) e5, rfl, trivial⟩ ⟨ren_pl hp _ _ _, rfl, ez1 _ rfl, ren_pl hzp _ _ _, ren_pl hq2 _ _ _, ren_pl hr1 _ _ _, trivial⟩ (by simp [nodupb, baseb, Ob.okb, frmOk, V.okb, A.okb, hp.2, hq2.2, hr1.2, hzp.2, oz1] <;> decide)⟩
              exact ⟨L.eraseIdx k, (L ++ J).drop (L.length - 1), X ++ [x], List.replicate (cap1 - (X.length + 1)) 0, ls2, xs1, .slc 5 0 (X.length + 1) cap1, cap1, hel, hls2, by rw [List.length_append, hel, List.length_drop, hLJ]; omega, hn0, rfl, .inr ⟨by simp, hxs1, by rw [List.length_replicate, List.length_append]; simp; omega, by rw [List.length_append]; rfl, rfl⟩⟩
          · have hL0 : L = [] := List.eq_nil_of_length_eq_zero (by have := of_decide_eq_false h; omega)
            subst hL0
            have hXn : X.length = n := by simpa using hXL
            rw [hXn]
            conv => whnf
            repeat' (first
              | rw [← hz1]
              | rw [← hz2]
              | rw [← hz3]
              | ((with_reducible refine forceL_of (l := z1) ?_); conv => whnf)
              | ((with_reducible refine forceL_to (l' := z1) ?_ ?_); (· rw [hz1]; rfl); conv => whnf)
              | ((with_reducible apply optm_of); (· first | exact y1 | exact y2); conv => whnf)
              | ((with_reducible refine regx_of ?_ ?_); (· decide +kernel); conv => whnf)
              | ((with_reducible refine growx_pre ?_ ?_); (· exact ⟨_, rfl⟩); conv => whnf)
              | ((with_reducible refine needm_of ?_ ?_); (· first | assumption | exact decide_eq_true (by omega) | exact mkOK_of (by decide) | decide +kernel | (refine decide_eq_true ?_; simp (disch := omega) only [i64w]; omega)); conv => whnf)
              | ((with_reducible refine condm_pos ?_ ?_); (· assumption); conv => whnf)
              | ((with_reducible refine condm_neg ?_ ?_); (· assumption); conv => whnf)
              | ((with_reducible refine forceL_fv (by assumption) ?_); conv => whnf)
              | ((with_reducible refine forceL_rfv (by assumption) ?_); conv => whnf)
              | ((with_reducible refine forceNm_of ?_); conv => whnf)
              | ((with_reducible refine needm_of (fv_lenL (by assumption) (by assumption)) ?_); conv => whnf)
              | ((with_reducible refine optm_var (fv_strL (by assumption) (by assumption)) (fun s hs => ?_)); conv => whnf)
              | ((with_reducible refine forceA_of ?_); conv => whnf)
              | ((with_reducible refine forceL_pl (by assumption) ?_); conv => whnf)
              | ((with_reducible refine forceL_rpl (by assumption) ?_); conv => whnf)
              | ((with_reducible apply optm_of); (· first | exact g0 | exact g1 | exact g2 | exact g3 | exact g4 | exact g5 | exact g6); conv => whnf)
              | fail)
            exact keepOf (v₀ := .a (.slc 2 0 n cap)) [.cells cs 73 mk, .cells [.slc 0 0 n n] 68 false, .cells xs 3 false] [0, 1, 5] rfl ⟨ren_pl hp _ _ _, rfl, ren_pl hr _ _ _, trivial⟩ (by simp [nodupb, baseb, Ob.okb, frmOk, V.okb, A.okb, hp.2, hr.2] <;> decide) (hK X Y xs cap hS hxs (by omega))
end
end Go.Proofs.Ytmnimmhpclhmfaa.PC
