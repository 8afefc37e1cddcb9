import Derived.Test.YtmnimmhpclhmfaaQB
import Derived.Test.YtmnimmhpclhmfaaPV
namespace Go.Proofs.Ytmnimmhpclhmfaa.PC
open Go.Eng
set_option maxRecDepth 100000
/-! An order that is made by laying each one in. -/
def Srt (f : Int → Option Int) (n : Nat) (L : List Int) : Prop := L.Perm (upTo n) ∧ L.Pairwise (before f)
theorem before_asymm {f : Int → Option Int} {a b : Int} (h : before f a b) (h' : before f b a) : a = b := by
  rcases h with h | ⟨h, h1⟩ <;> rcases h' with h' | ⟨h', h2⟩
  · rw [kl_asymm h] at h'; cases h'
  · rw [h', kl_irrefl] at h; cases h
  · rw [h, kl_irrefl] at h'; cases h'
  · omega
theorem Srt.zero (f : Int → Option Int) : Srt f 0 [] := ⟨by unfold upTo; exact List.Perm.refl _, List.Pairwise.nil⟩
theorem Srt.uniq {f : Int → Option Int} {n : Nat} {L M : List Int} (h : Srt f n L) (h' : Srt f n M) : L = M :=
  List.Perm.eq_of_pairwise (le := before f) (fun _ _ _ _ h1 h2 => before_asymm h1 h2) h.2 h'.2 (h.1.trans h'.1.symm)
theorem upTo_mem {n : Nat} {x : Int} (h : x ∈ upTo n) : 1 ≤ x ∧ x ≤ n := by
  unfold upTo at h
  obtain ⟨i, hi, rfl⟩ := List.mem_map.1 h
  have := List.mem_range.1 hi
  omega
theorem Srt.ins {f : Int → Option Int} {m a : Nat} {L : List Int} {x : Int} (hx : x = ((m + 1 : Nat) : Int)) (h : Srt f m L) (ha : a ≤ L.length) (h1 : ∀ (p : Nat) (y : Int), a ≤ p → L[p]? = some y → keyLess (f y) (f x) = true)
    (h2 : a = 0 ∨ ∃ y, L[a - 1]? = some y ∧ keyLess (f y) (f x) = false) : Srt f (m + 1) (L.take a ++ [x] ++ L.drop a) := by
  obtain ⟨hp, hs⟩ := h
  have hsplit : L.take a ++ L.drop a = L := List.take_append_drop a L
  refine ⟨?_, ?_⟩
  · rw [upTo_succ, ← hx, List.append_assoc]
    refine List.Perm.trans (List.perm_append_comm_assoc (L.take a) [x] (L.drop a)) ?_
    rw [hsplit]
    exact List.Perm.trans List.perm_append_comm (List.Perm.append_right [x] hp)
  · rw [← hsplit, List.pairwise_append] at hs
    obtain ⟨s1, s2, s3⟩ := hs
    have hlt : ∀ y ∈ L.take a, before f y x := fun y hy => by
      have hym : y ∈ upTo m := hp.subset (List.mem_of_mem_take hy)
      have hyx : y < x := by have := upTo_mem hym; omega
      rcases h2 with h2 | ⟨z, hz, hzx⟩
      · subst h2; simp at hy
      · have hyl : keyLess (f y) (f x) = false := by
          obtain ⟨q, hq⟩ := List.getElem?_of_mem hy
          have hq' : q < a := by
            have := (List.getElem?_eq_some_iff.1 hq).1
            rw [List.length_take] at this
            omega
          have hLq : L[q]? = some y := by rw [List.getElem?_take, if_pos hq'] at hq; exact hq
          by_cases e : q = a - 1
          · subst e; rw [hz] at hLq; injection hLq with hLq; subst hLq; exact hzx
          · have hb : before f y z := by
              have hpw := List.pairwise_iff_getElem.1 (show L.Pairwise (before f) by rw [← hsplit, List.pairwise_append]; exact ⟨s1, s2, s3⟩)
              obtain ⟨i1, e1⟩ := List.getElem?_eq_some_iff.1 hLq
              obtain ⟨i2, e2⟩ := List.getElem?_eq_some_iff.1 hz
              have := hpw q (a - 1) i1 i2 (by omega)
              rw [e1, e2] at this
              exact this
            rcases hb with hb | ⟨hb, _⟩
            · exact kl_le_trans hzx (kl_asymm hb)
            · rw [hb]; exact hzx
        cases hk : keyLess (f x) (f y) with
        | true => exact .inl hk
        | false => exact .inr ⟨kl_eq hyl hk, hyx⟩
    rw [List.append_assoc, List.pairwise_append]
    refine ⟨s1, ?_, fun y hy z hz => ?_⟩
    · show List.Pairwise (before f) (x :: L.drop a)
      refine List.Pairwise.cons (fun z hz => ?_) s2
      obtain ⟨q, hq⟩ := List.getElem?_of_mem hz
      rw [List.getElem?_drop] at hq
      exact .inl (h1 (a + q) z (by omega) hq)
    · rcases List.mem_append.1 hz with hz | hz
      · rw [List.mem_singleton] at hz; subst hz; exact hlt y hy
      · exact s3 y hy z hz
theorem Sel.srt {f : Int → Option Int} {n : Nat} {X : List Int} (h : Sel f n X []) : Srt f n X := ⟨by have := h.perm; rwa [List.append_nil] at this, h.done⟩
theorem shift_row {ls : List A} {L J' : List Int} {x y : Int} {k o : Nat} (e : ls = i64s (L.take k ++ ([x] ++ L.drop k) ++ J')) (hk : 1 ≤ k ∧ k ≤ L.length) (hy : L[k - 1]? = some y) (ho : o = k) : storeL ls o [.int .i64 y] = i64s (L.take (k - 1) ++ ([y] ++ L.drop (k - 1)) ++ J') := by
  rw [ho]
  rw [i64s_one, i64s_over e (by simp only [List.length_append, List.length_take, List.length_drop, List.length_cons, List.length_nil]; omega)]
  congr 1
  have h1 : (L.take k).length = k := by rw [List.length_take]; omega
  rw [List.append_assoc (L.take k), List.take_left' h1]
  have h2 : List.drop (k + [y].length) (L.take k ++ ([x] ++ L.drop k ++ J')) = L.drop k ++ J' := by
    rw [List.append_assoc [x], ← List.append_assoc (L.take k)]
    exact List.drop_left' (by rw [List.length_append, h1]; rfl)
  rw [h2]
  obtain ⟨hl, hy'⟩ := List.getElem?_eq_some_iff.1 hy
  have h3 : L.take k = L.take (k - 1) ++ [y] := by
    conv => lhs; rw [show k = k - 1 + 1 by omega, List.take_add_one, hy]
    rfl
  have h4 : L.drop (k - 1) = y :: L.drop k := by
    rw [List.drop_eq_getElem_cons hl, hy', show k - 1 + 1 = k by omega]
  rw [h4]
  conv => lhs; rw [h3]
  simp
theorem place_row {ls : List A} {L J' : List Int} {x z : Int} {k o : Nat} (e : ls = i64s (L.take k ++ ([x] ++ L.drop k) ++ J')) (hk : k ≤ L.length) (ho : o = k) : storeL ls o [.int .i64 z] = i64s ((L.take k ++ [z] ++ L.drop k) ++ J') := by
  rw [ho]
  rw [i64s_one, i64s_over e (by simp only [List.length_append, List.length_take, List.length_drop, List.length_cons, List.length_nil]; omega)]
  congr 1
  have h1 : (L.take k).length = k := by rw [List.length_take]; omega
  rw [List.append_assoc (L.take k), List.take_left' h1]
  have h2 : List.drop (k + [z].length) (L.take k ++ ([x] ++ L.drop k ++ J')) = L.drop k ++ J' := by
    rw [List.append_assoc [x], ← List.append_assoc (L.take k)]
    exact List.drop_left' (by rw [List.length_append, h1]; rfl)
  rw [h2]
  simp
section
variable {ro : Addr → A → Prop}
set_option maxHeartbeats 800000 in
theorem order50 (P : List Pt) (cs : List A) (n : Nat) (mk : Bool) (hcs : cs = prow P) (hn : n = P.length) (hn5 : n ≤ 5) (now : Nat) {K : V → Hp → Prop}
    (hK : ∀ X Y xs cap mx, Srt (sk P now) n X → xs = i64s (X ++ Y) → cap = n + Y.length → K (.a (.slc 2 0 n cap)) [.cells cs 82 mk, .cells [.slc 0 0 n n] 79 false, .cells xs 3 mx]) :
    Go.Eng.Fn Try.prog ro 50 [.a (.ptr 1 0), .a (.flt .f64 now)] [.cells cs 82 mk, .cells [.slc 0 0 n n] 79 false] K := by
  have hp := Pl.prow hcs
  refine Go.Eng.Fn.weak ?_
  refine Go.Eng.Fn.of 2 (gOf []) rfl Try.func50 rfl (Nat.le_of_ble_eq_true rfl) ?_
  conv => whnf
  repeat' (first
    | ((with_reducible refine regx_of ?_ ?_); (· decide +kernel); conv => whnf)
    | ((with_reducible refine growx_pre ?_ ?_); (· exact ⟨_, rfl⟩); conv => whnf)
    | ((with_reducible refine needm_of ?_ ?_); (· first | assumption | exact decide_eq_true (by omega) | exact mkOK_of (by decide) | decide +kernel | (refine decide_eq_true ?_; simp (disch := omega) only [i64w]; omega)); conv => whnf)
    | ((with_reducible refine condm_pos ?_ ?_); (· assumption); conv => whnf)
    | ((with_reducible refine condm_neg ?_ ?_); (· assumption); conv => whnf)
    | ((with_reducible refine forceL_fv (by assumption) ?_); conv => whnf)
    | ((with_reducible refine forceL_rfv (by assumption) ?_); conv => whnf)
    | ((with_reducible refine forceNm_of ?_); conv => whnf)
    | ((with_reducible refine needm_of (fv_lenL (by assumption) (by assumption)) ?_); conv => whnf)
    | ((with_reducible refine optm_var (fv_strL (by assumption) (by assumption)) (fun s hs => ?_)); conv => whnf)
    | ((with_reducible refine forceA_of ?_); conv => whnf)
    | ((with_reducible refine forceL_pl (by assumption) ?_); conv => whnf)
    | ((with_reducible refine forceL_rpl (by assumption) ?_); conv => whnf)
    | ((with_reducible apply optm_of); (· first | exact g0 | exact g1); conv => whnf)
    | fail)
  refine loopx_of (fun q F H => ∃ (m : Nat) (L J : List Int) (ls : List A) (c : Nat) (ml : Bool), m ≤ n ∧ q = n - m ∧ Srt (sk P now) m L ∧ ls = i64s (L ++ J) ∧ c = m + J.length ∧ F = [(0, .a (.ptr 1 0)), (1, .a (.flt .f64 now)), (5, .a (.slc 2 0 m c)), (6, .a (.int .i64 ((m + 1 : Nat) : Int)))] ∧ H = [.cells cs 82 mk, .cells [.slc 0 0 n n] 79 false, .cells ls 3 ml]) n ?_ ?_
  · refine Into.ghost 2 [(0, .a (.ptr 1 0)), (1, .a (.flt .f64 now)), (5, .a (.slc 2 0 0 0)), (6, .a (.int .i64 1))] [.cells cs 82 mk, .cells [.slc 0 0 n n] 79 false, .cells [] 3 false] rfl ⟨rfl, rfl, rfl, rfl, trivial⟩ ⟨ung_pl hp.1 _ _ _, rfl, rfl, trivial⟩ (by simp [Ob.okb, frmOk, V.okb, A.okb, hp.2] <;> decide) ?_
    exact Into.weak [0, 1, 2] [(0, .a (.ptr 1 0)), (1, .a (.flt .f64 now)), (5, .a (.slc 2 0 0 0)), (6, .a (.int .i64 ((0 + 1 : Nat) : Int)))] [.cells cs 82 mk, .cells [.slc 0 0 n n] 79 false, .cells [] 3 false] ⟨0, [], [], [], 0, false, Nat.zero_le _, rfl, .zero _, by unfold i64s; rfl, rfl, rfl, rfl⟩ ⟨rfl, rfl, rfl, rfl, trivial⟩ ⟨ren_pl hp _ _ _, rfl, rfl, trivial⟩ (by simp [nodupb, baseb, Ob.okb, frmOk, V.okb, A.okb, hp.2] <;> decide)
  · rintro q F H ⟨m, L, J, ls, c, ml, hm, rfl, hS, hls, hc, rfl, rfl⟩
    have hq := Pl.i64 hls
    have hLm : L.length = m := by have := hS.1.length_eq; rw [upTo_length] at this; exact this
    have hll : ls.length = m + J.length := by rw [hls, i64s_length, List.length_append, hLm]
    conv => whnf
    repeat' (first
      | ((with_reducible refine regx_of ?_ ?_); (· decide +kernel); conv => whnf)
      | ((with_reducible refine growx_pre ?_ ?_); (· exact ⟨_, rfl⟩); conv => whnf)
      | ((with_reducible refine needm_of ?_ ?_); (· first | assumption | exact decide_eq_true (by omega) | exact mkOK_of (by decide) | decide +kernel | (refine decide_eq_true ?_; simp (disch := omega) only [i64w]; omega)); conv => whnf)
      | ((with_reducible refine condm_pos ?_ ?_); (· assumption); conv => whnf)
      | ((with_reducible refine condm_neg ?_ ?_); (· assumption); conv => whnf)
      | ((with_reducible refine forceL_fv (by assumption) ?_); conv => whnf)
      | ((with_reducible refine forceL_rfv (by assumption) ?_); conv => whnf)
      | ((with_reducible refine forceNm_of ?_); conv => whnf)
      | ((with_reducible refine needm_of (fv_lenL (by assumption) (by assumption)) ?_); conv => whnf)
      | ((with_reducible refine optm_var (fv_strL (by assumption) (by assumption)) (fun s hs => ?_)); conv => whnf)
      | ((with_reducible refine forceA_of ?_); conv => whnf)
      | ((with_reducible refine forceL_pl (by assumption) ?_); conv => whnf)
      | ((with_reducible refine forceL_rpl (by assumption) ?_); conv => whnf)
      | ((with_reducible apply optm_of); (· first | exact g0 | exact g1); conv => whnf)
      | fail)
    refine condm_of (fun h => ?_) (fun h => ?_)
    · have hmn : m < n := by have := of_decide_eq_true h; omega
      conv => whnf
      repeat' (first
        | ((with_reducible refine regx_of ?_ ?_); (· decide +kernel); conv => whnf)
        | ((with_reducible refine growx_pre ?_ ?_); (· exact ⟨_, rfl⟩); conv => whnf)
        | ((with_reducible refine needm_of ?_ ?_); (· first | assumption | exact decide_eq_true (by omega) | exact mkOK_of (by decide) | decide +kernel | (refine decide_eq_true ?_; simp (disch := omega) only [i64w]; omega)); conv => whnf)
        | ((with_reducible refine condm_pos ?_ ?_); (· assumption); conv => whnf)
        | ((with_reducible refine condm_neg ?_ ?_); (· assumption); conv => whnf)
        | ((with_reducible refine forceL_fv (by assumption) ?_); conv => whnf)
        | ((with_reducible refine forceL_rfv (by assumption) ?_); conv => whnf)
        | ((with_reducible refine forceNm_of ?_); conv => whnf)
        | ((with_reducible refine needm_of (fv_lenL (by assumption) (by assumption)) ?_); conv => whnf)
        | ((with_reducible refine optm_var (fv_strL (by assumption) (by assumption)) (fun s hs => ?_)); conv => whnf)
        | ((with_reducible refine forceA_of ?_); conv => whnf)
        | ((with_reducible refine forceL_pl (by assumption) ?_); conv => whnf)
        | ((with_reducible refine forceL_rpl (by assumption) ?_); conv => whnf)
        | ((with_reducible apply optm_of); (· first | exact g0 | exact g1); conv => whnf)
        | fail)
      refine loopx_of (fun q F H => ∃ (a : Nat), a ≤ m ∧ q = a ∧ (∀ (p : Nat) (y : Int), a ≤ p → L[p]? = some y → keyLess (sk P now y) (sk P now ((m + 1 : Nat) : Int)) = true) ∧ F = [(0, .a (.ptr 1 0)), (1, .a (.flt .f64 now)), (5, .a (.slc 2 0 m c)), (6, .a (.int .i64 ((m + 1 : Nat) : Int))), (7, .a (.int .i64 (a : Int)))] ∧ H = [.cells cs 82 mk, .cells [.slc 0 0 n n] 79 false, .cells ls 3 ml]) m ?_ ?_
      · exact Into.weak [0, 1, 2] _ [.cells cs 82 mk, .cells [.slc 0 0 n n] 79 false, .cells ls 3 ml] ⟨m, Nat.le_refl _, rfl, fun p y hp hy => absurd (List.getElem?_eq_some_iff.1 hy).1 (by omega), rfl, rfl⟩ ⟨rfl, rfl, rfl, rfl, rfl, trivial⟩ ⟨ren_pl hp _ _ _, rfl, ren_pl hq _ _ _, trivial⟩ (by simp [nodupb, baseb, Ob.okb, frmOk, V.okb, A.okb, hp.2, hq.2] <;> decide)
      · rintro q F H ⟨a, ham, rfl, hup, rfl, rfl⟩
        by_cases ha0 : q = 0
        · have hlow : q = 0 ∨ ∃ y, L[q - 1]? = some y ∧ keyLess (sk P now y) (sk P now ((m + 1 : Nat) : Int)) = false := .inl ha0
          have c0 : decide ((q : Int) > 0) = false := decide_eq_false (by omega)
          obtain ⟨a, haq⟩ : ∃ a, a = q := ⟨_, rfl⟩
          rw [← haq] at hlow hup ham c0 ⊢
          clear haq ha0
          conv => whnf
          repeat' (first
            | ((with_reducible refine regx_of ?_ ?_); (· decide +kernel); conv => whnf)
            | ((with_reducible refine growx_pre ?_ ?_); (· exact ⟨_, rfl⟩); conv => whnf)
            | ((with_reducible refine needm_of ?_ ?_); (· first | assumption | exact decide_eq_true (by omega) | exact mkOK_of (by decide) | decide +kernel | (refine decide_eq_true ?_; simp (disch := omega) only [i64w]; omega)); conv => whnf)
            | ((with_reducible refine condm_pos ?_ ?_); (· assumption); conv => whnf)
            | ((with_reducible refine condm_neg ?_ ?_); (· assumption); conv => whnf)
            | ((with_reducible refine forceL_fv (by assumption) ?_); conv => whnf)
            | ((with_reducible refine forceL_rfv (by assumption) ?_); conv => whnf)
            | ((with_reducible refine forceNm_of ?_); conv => whnf)
            | ((with_reducible refine needm_of (fv_lenL (by assumption) (by assumption)) ?_); conv => whnf)
            | ((with_reducible refine optm_var (fv_strL (by assumption) (by assumption)) (fun s hs => ?_)); conv => whnf)
            | ((with_reducible refine forceA_of ?_); conv => whnf)
            | ((with_reducible refine forceL_pl (by assumption) ?_); conv => whnf)
            | ((with_reducible refine forceL_rpl (by assumption) ?_); conv => whnf)
            | ((with_reducible apply optm_of); (· first | exact g0 | exact g1); conv => whnf)
            | fail)
          conv => whnf
          repeat' (first
            | ((with_reducible refine regx_of ?_ ?_); (· decide +kernel); conv => whnf)
            | ((with_reducible refine growx_pre ?_ ?_); (· exact ⟨_, rfl⟩); conv => whnf)
            | ((with_reducible refine needm_of ?_ ?_); (· first | assumption | exact decide_eq_true (by omega) | exact mkOK_of (by decide) | decide +kernel | (refine decide_eq_true ?_; simp (disch := omega) only [i64w]; omega)); conv => whnf)
            | ((with_reducible refine condm_pos ?_ ?_); (· assumption); conv => whnf)
            | ((with_reducible refine condm_neg ?_ ?_); (· assumption); conv => whnf)
            | ((with_reducible refine forceL_fv (by assumption) ?_); conv => whnf)
            | ((with_reducible refine forceL_rfv (by assumption) ?_); conv => whnf)
            | ((with_reducible refine forceNm_of ?_); conv => whnf)
            | ((with_reducible refine needm_of (fv_lenL (by assumption) (by assumption)) ?_); conv => whnf)
            | ((with_reducible refine optm_var (fv_strL (by assumption) (by assumption)) (fun s hs => ?_)); conv => whnf)
            | ((with_reducible refine forceA_of ?_); conv => whnf)
            | ((with_reducible refine forceL_pl (by assumption) ?_); conv => whnf)
            | ((with_reducible refine forceL_rpl (by assumption) ?_); conv => whnf)
            | ((with_reducible apply optm_of); (· first | exact g0 | exact g1); conv => whnf)
            | fail)
          have e5 : IntKind.i64.wrap (((m + 1 : Nat) : Int) - 1) = (m : Int) := by rw [i64w (by omega) (by omega)]; omega
          refine condm_of (fun hc => ?_) (fun hc => ?_)
          · have hcc := of_decide_eq_true hc
            conv => whnf
            refine needm_of (decide_eq_true (by rw [s3]; show 0 + m * 1 + 1 ≤ ls.length; omega)) ?_
            conv => whnf
            repeat' (first
              | ((with_reducible refine regx_of ?_ ?_); (· decide +kernel); conv => whnf)
              | ((with_reducible refine growx_pre ?_ ?_); (· exact ⟨_, rfl⟩); conv => whnf)
              | ((with_reducible refine needm_of ?_ ?_); (· first | assumption | exact decide_eq_true (by omega) | exact mkOK_of (by decide) | decide +kernel | (refine decide_eq_true ?_; simp (disch := omega) only [i64w]; omega)); conv => whnf)
              | ((with_reducible refine condm_pos ?_ ?_); (· assumption); conv => whnf)
              | ((with_reducible refine condm_neg ?_ ?_); (· assumption); conv => whnf)
              | ((with_reducible refine forceL_fv (by assumption) ?_); conv => whnf)
              | ((with_reducible refine forceL_rfv (by assumption) ?_); conv => whnf)
              | ((with_reducible refine forceNm_of ?_); conv => whnf)
              | ((with_reducible refine needm_of (fv_lenL (by assumption) (by assumption)) ?_); conv => whnf)
              | ((with_reducible refine optm_var (fv_strL (by assumption) (by assumption)) (fun s hs => ?_)); conv => whnf)
              | ((with_reducible refine forceA_of ?_); conv => whnf)
              | ((with_reducible refine forceL_pl (by assumption) ?_); conv => whnf)
              | ((with_reducible refine forceL_rpl (by assumption) ?_); conv => whnf)
              | ((with_reducible apply optm_of); (· first | exact g0 | exact g1); conv => whnf)
              | fail)
            refine forceL_var (l' := i64s (L ++ [((m + 1 : Nat) : Int)] ++ J.tail)) (by rw [s3]; exact i64s_in hls (by omega) (by omega)) (fun ls1 hls1 => ?_)
            have hq1 := Pl.i64 hls1
            obtain ⟨J', hJ'⟩ : ∃ J', J' = J.tail := ⟨_, rfl⟩
            rw [← hJ'] at hls1
            obtain ⟨c', hcc'⟩ : ∃ c', c' = c := ⟨_, rfl⟩
            rw [← hcc']
            have hc' : c' = m + 1 + J'.length := by rw [hJ', List.length_tail]; omega
            obtain ⟨ml', hml'⟩ : ∃ ml', ml' = ml := ⟨_, rfl⟩
            rw [← hml']
            clear hc hcc hcc' hml' hJ'
            conv => whnf
            repeat' (first
              | ((with_reducible refine regx_of ?_ ?_); (· decide +kernel); conv => whnf)
              | ((with_reducible refine growx_pre ?_ ?_); (· exact ⟨_, rfl⟩); conv => whnf)
              | ((with_reducible refine needm_of ?_ ?_); (· first | assumption | exact decide_eq_true (by omega) | exact mkOK_of (by decide) | decide +kernel | (refine decide_eq_true ?_; simp (disch := omega) only [i64w]; omega)); conv => whnf)
              | ((with_reducible refine condm_pos ?_ ?_); (· assumption); conv => whnf)
              | ((with_reducible refine condm_neg ?_ ?_); (· assumption); conv => whnf)
              | ((with_reducible refine forceL_fv (by assumption) ?_); conv => whnf)
              | ((with_reducible refine forceL_rfv (by assumption) ?_); conv => whnf)
              | ((with_reducible refine forceNm_of ?_); conv => whnf)
              | ((with_reducible refine needm_of (fv_lenL (by assumption) (by assumption)) ?_); conv => whnf)
              | ((with_reducible refine optm_var (fv_strL (by assumption) (by assumption)) (fun s hs => ?_)); conv => whnf)
              | ((with_reducible refine forceA_of ?_); conv => whnf)
              | ((with_reducible refine forceL_pl (by assumption) ?_); conv => whnf)
              | ((with_reducible refine forceL_rpl (by assumption) ?_); conv => whnf)
              | ((with_reducible apply optm_of); (· first | exact g0 | exact g1); conv => whnf)
              | fail)
            rw [e5]
            conv => whnf
            repeat' (first
              | ((with_reducible refine regx_of ?_ ?_); (· decide +kernel); conv => whnf)
              | ((with_reducible refine growx_pre ?_ ?_); (· exact ⟨_, rfl⟩); conv => whnf)
              | ((with_reducible refine needm_of ?_ ?_); (· first | assumption | exact decide_eq_true (by omega) | exact mkOK_of (by decide) | decide +kernel | (refine decide_eq_true ?_; simp (disch := omega) only [i64w]; omega)); conv => whnf)
              | ((with_reducible refine condm_pos ?_ ?_); (· assumption); conv => whnf)
              | ((with_reducible refine condm_neg ?_ ?_); (· assumption); conv => whnf)
              | ((with_reducible refine forceL_fv (by assumption) ?_); conv => whnf)
              | ((with_reducible refine forceL_rfv (by assumption) ?_); conv => whnf)
              | ((with_reducible refine forceNm_of ?_); conv => whnf)
              | ((with_reducible refine needm_of (fv_lenL (by assumption) (by assumption)) ?_); conv => whnf)
              | ((with_reducible refine optm_var (fv_strL (by assumption) (by assumption)) (fun s hs => ?_)); conv => whnf)
              | ((with_reducible refine forceA_of ?_); conv => whnf)
              | ((with_reducible refine forceL_pl (by assumption) ?_); conv => whnf)
              | ((with_reducible refine forceL_rpl (by assumption) ?_); conv => whnf)
              | ((with_reducible apply optm_of); (· first | exact g0 | exact g1); conv => whnf)
              | fail)
            refine loopx_of (fun q F H => ∃ (k : Nat) (x : Int) (ls : List A), a ≤ k ∧ k ≤ m ∧ q = k ∧ ls = i64s (L.take k ++ ([x] ++ L.drop k) ++ J') ∧ F = [(0, .a (.ptr 1 0)), (1, .a (.flt .f64 now)), (5, .a (.slc 2 0 (m + 1) c')), (6, .a (.int .i64 ((m + 1 : Nat) : Int))), (7, .a (.int .i64 (a : Int))), (8, .a (.int .i64 (k : Int)))] ∧ H = [.cells cs 82 mk, .cells [.slc 0 0 n n] 79 false, .cells ls 3 ml']) m ?_ ?_
            · exact Into.weak [0, 1, 2] _ [.cells cs 82 mk, .cells [.slc 0 0 n n] 79 false, .cells ls1 3 ml'] ⟨m, ((m + 1 : Nat) : Int), ls1, by omega, Nat.le_refl _, rfl, by rw [hls1, List.take_of_length_le (by omega), List.drop_of_length_le (by omega), List.append_nil], rfl, rfl⟩ ⟨rfl, rfl, rfl, rfl, rfl, rfl, trivial⟩ ⟨ren_pl hp _ _ _, rfl, ren_pl hq1 _ _ _, trivial⟩ (by simp [nodupb, baseb, Ob.okb, frmOk, V.okb, A.okb, hp.2, hq1.2] <;> decide)
            · rintro q F H ⟨k, x, ls, hak, hkm, rfl, hls, rfl, rfl⟩
              have hq := Pl.i64 hls
              have hll : ls.length = m + 1 + J'.length := by rw [hls, i64s_length]; simp only [List.length_append, List.length_take, List.length_drop, List.length_cons, List.length_nil]; omega
              conv => whnf
              repeat' (first
                | ((with_reducible refine regx_of ?_ ?_); (· decide +kernel); conv => whnf)
                | ((with_reducible refine growx_pre ?_ ?_); (· exact ⟨_, rfl⟩); conv => whnf)
                | ((with_reducible refine needm_of ?_ ?_); (· first | assumption | exact decide_eq_true (by omega) | exact mkOK_of (by decide) | decide +kernel | (refine decide_eq_true ?_; simp (disch := omega) only [i64w]; omega)); conv => whnf)
                | ((with_reducible refine condm_pos ?_ ?_); (· assumption); conv => whnf)
                | ((with_reducible refine condm_neg ?_ ?_); (· assumption); conv => whnf)
                | ((with_reducible refine forceL_fv (by assumption) ?_); conv => whnf)
                | ((with_reducible refine forceL_rfv (by assumption) ?_); conv => whnf)
                | ((with_reducible refine forceNm_of ?_); conv => whnf)
                | ((with_reducible refine needm_of (fv_lenL (by assumption) (by assumption)) ?_); conv => whnf)
                | ((with_reducible refine optm_var (fv_strL (by assumption) (by assumption)) (fun s hs => ?_)); conv => whnf)
                | ((with_reducible refine forceA_of ?_); conv => whnf)
                | ((with_reducible refine forceL_pl (by assumption) ?_); conv => whnf)
                | ((with_reducible refine forceL_rpl (by assumption) ?_); conv => whnf)
                | ((with_reducible apply optm_of); (· first | exact g0 | exact g1); conv => whnf)
                | fail)
              refine condm_of (fun h => ?_) (fun h => ?_)
              · have hka : a < q := by have := of_decide_eq_true h; omega
                have e3 : IntKind.i64.wrap ((q : Int) - 1) = ((q - 1 : Nat) : Int) := by rw [i64w (by omega) (by omega)]; omega
                obtain ⟨y, hy⟩ : ∃ y, L[q - 1]? = some y := ⟨_, List.getElem?_eq_getElem (by omega)⟩
                have g0 : ls[0 + ((q - 1 : Nat) : Int).toNat * Try.prog.types[3].size]? = some (.int .i64 y) := by
                  rw [s3, Int.toNat_natCast, Nat.zero_add, Nat.mul_one]
                  refine i64s_get hls ?_
                  rw [List.append_assoc, List.getElem?_append_left (by rw [List.length_take]; omega), List.getElem?_take, if_pos (by omega)]
                  exact hy
                conv => whnf
                repeat' (first
                  | ((with_reducible refine regx_of ?_ ?_); (· decide +kernel); conv => whnf)
                  | ((with_reducible refine growx_pre ?_ ?_); (· exact ⟨_, rfl⟩); conv => whnf)
                  | ((with_reducible refine needm_of ?_ ?_); (· first | assumption | exact decide_eq_true (by omega) | exact mkOK_of (by decide) | decide +kernel | (refine decide_eq_true ?_; simp (disch := omega) only [i64w]; omega)); conv => whnf)
                  | ((with_reducible refine condm_pos ?_ ?_); (· assumption); conv => whnf)
                  | ((with_reducible refine condm_neg ?_ ?_); (· assumption); conv => whnf)
                  | ((with_reducible refine forceL_fv (by assumption) ?_); conv => whnf)
                  | ((with_reducible refine forceL_rfv (by assumption) ?_); conv => whnf)
                  | ((with_reducible refine forceNm_of ?_); conv => whnf)
                  | ((with_reducible refine needm_of (fv_lenL (by assumption) (by assumption)) ?_); conv => whnf)
                  | ((with_reducible refine optm_var (fv_strL (by assumption) (by assumption)) (fun s hs => ?_)); conv => whnf)
                  | ((with_reducible refine forceA_of ?_); conv => whnf)
                  | ((with_reducible refine forceL_pl (by assumption) ?_); conv => whnf)
                  | ((with_reducible refine forceL_rpl (by assumption) ?_); conv => whnf)
                  | ((with_reducible apply optm_of); (· first | exact g0 | exact g1); conv => whnf)
                  | fail)
                rw [e3]
                conv => whnf
                repeat' (first
                  | ((with_reducible refine regx_of ?_ ?_); (· decide +kernel); conv => whnf)
                  | ((with_reducible refine growx_pre ?_ ?_); (· exact ⟨_, rfl⟩); conv => whnf)
                  | ((with_reducible refine needm_of ?_ ?_); (· first | assumption | exact decide_eq_true (by omega) | exact mkOK_of (by decide) | decide +kernel | (refine decide_eq_true ?_; simp (disch := omega) only [i64w]; omega)); conv => whnf)
                  | ((with_reducible refine condm_pos ?_ ?_); (· assumption); conv => whnf)
                  | ((with_reducible refine condm_neg ?_ ?_); (· assumption); conv => whnf)
                  | ((with_reducible refine forceL_fv (by assumption) ?_); conv => whnf)
                  | ((with_reducible refine forceL_rfv (by assumption) ?_); conv => whnf)
                  | ((with_reducible refine forceNm_of ?_); conv => whnf)
                  | ((with_reducible refine needm_of (fv_lenL (by assumption) (by assumption)) ?_); conv => whnf)
                  | ((with_reducible refine optm_var (fv_strL (by assumption) (by assumption)) (fun s hs => ?_)); conv => whnf)
                  | ((with_reducible refine forceA_of ?_); conv => whnf)
                  | ((with_reducible refine forceL_pl (by assumption) ?_); conv => whnf)
                  | ((with_reducible refine forceL_rpl (by assumption) ?_); conv => whnf)
                  | ((with_reducible apply optm_of); (· first | exact g0 | exact g1); conv => whnf)
                  | fail)
                refine needm_of (Bool.and_eq_true_iff.2 ⟨rfl, decide_eq_true (by show 0 + (q : Int).toNat * _ + 1 ≤ _; rw [s3, Int.toNat_natCast]; omega)⟩) ?_
                conv => whnf
                repeat' (first
                  | ((with_reducible refine regx_of ?_ ?_); (· decide +kernel); conv => whnf)
                  | ((with_reducible refine growx_pre ?_ ?_); (· exact ⟨_, rfl⟩); conv => whnf)
                  | ((with_reducible refine needm_of ?_ ?_); (· first | assumption | exact decide_eq_true (by omega) | exact mkOK_of (by decide) | decide +kernel | (refine decide_eq_true ?_; simp (disch := omega) only [i64w]; omega)); conv => whnf)
                  | ((with_reducible refine condm_pos ?_ ?_); (· assumption); conv => whnf)
                  | ((with_reducible refine condm_neg ?_ ?_); (· assumption); conv => whnf)
                  | ((with_reducible refine forceL_fv (by assumption) ?_); conv => whnf)
                  | ((with_reducible refine forceL_rfv (by assumption) ?_); conv => whnf)
                  | ((with_reducible refine forceNm_of ?_); conv => whnf)
                  | ((with_reducible refine needm_of (fv_lenL (by assumption) (by assumption)) ?_); conv => whnf)
                  | ((with_reducible refine optm_var (fv_strL (by assumption) (by assumption)) (fun s hs => ?_)); conv => whnf)
                  | ((with_reducible refine forceA_of ?_); conv => whnf)
                  | ((with_reducible refine forceL_pl (by assumption) ?_); conv => whnf)
                  | ((with_reducible refine forceL_rpl (by assumption) ?_); conv => whnf)
                  | ((with_reducible apply optm_of); (· first | exact g0 | exact g1); conv => whnf)
                  | fail)
                refine forceL_var (l' := i64s (L.take (q - 1) ++ ([y] ++ L.drop (q - 1)) ++ J')) (shift_row hls (by omega) hy (by rw [s3, Int.toNat_natCast, Nat.zero_add, Nat.mul_one])) (fun ls2 hls2 => ?_)
                have hq2 := Pl.i64 hls2
                conv => whnf
                repeat' (first
                  | ((with_reducible refine regx_of ?_ ?_); (· decide +kernel); conv => whnf)
                  | ((with_reducible refine growx_pre ?_ ?_); (· exact ⟨_, rfl⟩); conv => whnf)
                  | ((with_reducible refine needm_of ?_ ?_); (· first | assumption | exact decide_eq_true (by omega) | exact mkOK_of (by decide) | decide +kernel | (refine decide_eq_true ?_; simp (disch := omega) only [i64w]; omega)); conv => whnf)
                  | ((with_reducible refine condm_pos ?_ ?_); (· assumption); conv => whnf)
                  | ((with_reducible refine condm_neg ?_ ?_); (· assumption); conv => whnf)
                  | ((with_reducible refine forceL_fv (by assumption) ?_); conv => whnf)
                  | ((with_reducible refine forceL_rfv (by assumption) ?_); conv => whnf)
                  | ((with_reducible refine forceNm_of ?_); conv => whnf)
                  | ((with_reducible refine needm_of (fv_lenL (by assumption) (by assumption)) ?_); conv => whnf)
                  | ((with_reducible refine optm_var (fv_strL (by assumption) (by assumption)) (fun s hs => ?_)); conv => whnf)
                  | ((with_reducible refine forceA_of ?_); conv => whnf)
                  | ((with_reducible refine forceL_pl (by assumption) ?_); conv => whnf)
                  | ((with_reducible refine forceL_rpl (by assumption) ?_); conv => whnf)
                  | ((with_reducible apply optm_of); (· first | exact g0 | exact g1); conv => whnf)
                  | fail)
                refine ⟨q - 1, by omega, Into.weak [0, 1, 2] _ [.cells cs 82 mk, .cells [.slc 0 0 n n] 79 false, .cells ls2 3 ml'] ⟨q - 1, y, ls2, by omega, by omega, rfl, hls2, rfl, rfl⟩ ⟨rfl, rfl, rfl, rfl, rfl, congrArg (fun z => some (V.a (.int .i64 z))) e3, trivial⟩ ⟨ren_pl hp _ _ _, rfl, ren_pl hq2 _ _ _, trivial⟩ (by simp [nodupb, baseb, Ob.okb, frmOk, V.okb, A.okb, hp.2, hq2.2] <;> decide)⟩
              · have hka : q = a := by have := of_decide_eq_false h; omega
                subst hka
                conv => whnf
                repeat' (first
                  | ((with_reducible refine regx_of ?_ ?_); (· decide +kernel); conv => whnf)
                  | ((with_reducible refine growx_pre ?_ ?_); (· exact ⟨_, rfl⟩); conv => whnf)
                  | ((with_reducible refine needm_of ?_ ?_); (· first | assumption | exact decide_eq_true (by omega) | exact mkOK_of (by decide) | decide +kernel | (refine decide_eq_true ?_; simp (disch := omega) only [i64w]; omega)); conv => whnf)
                  | ((with_reducible refine condm_pos ?_ ?_); (· assumption); conv => whnf)
                  | ((with_reducible refine condm_neg ?_ ?_); (· assumption); conv => whnf)
                  | ((with_reducible refine forceL_fv (by assumption) ?_); conv => whnf)
                  | ((with_reducible refine forceL_rfv (by assumption) ?_); conv => whnf)
                  | ((with_reducible refine forceNm_of ?_); conv => whnf)
                  | ((with_reducible refine needm_of (fv_lenL (by assumption) (by assumption)) ?_); conv => whnf)
                  | ((with_reducible refine optm_var (fv_strL (by assumption) (by assumption)) (fun s hs => ?_)); conv => whnf)
                  | ((with_reducible refine forceA_of ?_); conv => whnf)
                  | ((with_reducible refine forceL_pl (by assumption) ?_); conv => whnf)
                  | ((with_reducible refine forceL_rpl (by assumption) ?_); conv => whnf)
                  | ((with_reducible apply optm_of); (· first | exact g0 | exact g1); conv => whnf)
                  | fail)
                refine needm_of (Bool.and_eq_true_iff.2 ⟨rfl, decide_eq_true (by show 0 + (q : Int).toNat * _ + 1 ≤ _; rw [s3, Int.toNat_natCast]; omega)⟩) ?_
                conv => whnf
                repeat' (first
                  | ((with_reducible refine regx_of ?_ ?_); (· decide +kernel); conv => whnf)
                  | ((with_reducible refine growx_pre ?_ ?_); (· exact ⟨_, rfl⟩); conv => whnf)
                  | ((with_reducible refine needm_of ?_ ?_); (· first | assumption | exact decide_eq_true (by omega) | exact mkOK_of (by decide) | decide +kernel | (refine decide_eq_true ?_; simp (disch := omega) only [i64w]; omega)); conv => whnf)
                  | ((with_reducible refine condm_pos ?_ ?_); (· assumption); conv => whnf)
                  | ((with_reducible refine condm_neg ?_ ?_); (· assumption); conv => whnf)
                  | ((with_reducible refine forceL_fv (by assumption) ?_); conv => whnf)
                  | ((with_reducible refine forceL_rfv (by assumption) ?_); conv => whnf)
                  | ((with_reducible refine forceNm_of ?_); conv => whnf)
                  | ((with_reducible refine needm_of (fv_lenL (by assumption) (by assumption)) ?_); conv => whnf)
                  | ((with_reducible refine optm_var (fv_strL (by assumption) (by assumption)) (fun s hs => ?_)); conv => whnf)
                  | ((with_reducible refine forceA_of ?_); conv => whnf)
                  | ((with_reducible refine forceL_pl (by assumption) ?_); conv => whnf)
                  | ((with_reducible refine forceL_rpl (by assumption) ?_); conv => whnf)
                  | ((with_reducible apply optm_of); (· first | exact g0 | exact g1); conv => whnf)
                  | fail)
                refine forceL_var (l' := i64s ((L.take q ++ [((m + 1 : Nat) : Int)] ++ L.drop q) ++ J')) (place_row hls (by omega) (by rw [s3, Int.toNat_natCast, Nat.zero_add, Nat.mul_one])) (fun ls2 hls2 => ?_)
                have hq2 := Pl.i64 hls2
                have e9 : IntKind.i64.wrap (((m + 1 : Nat) : Int) + 1) = ((m + 1 + 1 : Nat) : Int) := by rw [i64w (by omega) (by omega)]; rfl
                conv => whnf
                repeat' (first
                  | ((with_reducible refine regx_of ?_ ?_); (· decide +kernel); conv => whnf)
                  | ((with_reducible refine growx_pre ?_ ?_); (· exact ⟨_, rfl⟩); conv => whnf)
                  | ((with_reducible refine needm_of ?_ ?_); (· first | assumption | exact decide_eq_true (by omega) | exact mkOK_of (by decide) | decide +kernel | (refine decide_eq_true ?_; simp (disch := omega) only [i64w]; omega)); conv => whnf)
                  | ((with_reducible refine condm_pos ?_ ?_); (· assumption); conv => whnf)
                  | ((with_reducible refine condm_neg ?_ ?_); (· assumption); conv => whnf)
                  | ((with_reducible refine forceL_fv (by assumption) ?_); conv => whnf)
                  | ((with_reducible refine forceL_rfv (by assumption) ?_); conv => whnf)
                  | ((with_reducible refine forceNm_of ?_); conv => whnf)
                  | ((with_reducible refine needm_of (fv_lenL (by assumption) (by assumption)) ?_); conv => whnf)
                  | ((with_reducible refine optm_var (fv_strL (by assumption) (by assumption)) (fun s hs => ?_)); conv => whnf)
                  | ((with_reducible refine forceA_of ?_); conv => whnf)
                  | ((with_reducible refine forceL_pl (by assumption) ?_); conv => whnf)
                  | ((with_reducible refine forceL_rpl (by assumption) ?_); conv => whnf)
                  | ((with_reducible apply optm_of); (· first | exact g0 | exact g1); conv => whnf)
                  | fail)
                refine ⟨n - (m + 1), by omega, Into.weak [0, 1, 2] _ [.cells cs 82 mk, .cells [.slc 0 0 n n] 79 false, .cells ls2 3 ml'] ⟨m + 1, L.take q ++ [((m + 1 : Nat) : Int)] ++ L.drop q, J', ls2, c', ml', by omega, rfl, hS.ins rfl (by omega) hup hlow, hls2, hc', rfl, rfl⟩ ⟨rfl, rfl, rfl, congrArg (fun z => some (V.a (.int .i64 z))) e9, trivial⟩ ⟨ren_pl hp _ _ _, rfl, ren_pl hq2 _ _ _, trivial⟩ (by simp [nodupb, baseb, Ob.okb, frmOk, V.okb, A.okb, hp.2, hq2.2] <;> decide)⟩
          · have hcc := of_decide_eq_false hc
            conv => whnf
            refine needm_of (decide_eq_true (by rw [s3, b3]; exact ⟨by omega, by omega, by omega⟩)) ?_
            intro c' hcap
            conv => whnf
            repeat' (first
              | ((with_reducible refine regx_of ?_ ?_); (· decide +kernel); conv => whnf)
              | ((with_reducible refine growx_pre ?_ ?_); (· exact ⟨_, rfl⟩); conv => whnf)
              | ((with_reducible refine needm_of ?_ ?_); (· first | assumption | exact decide_eq_true (by omega) | exact mkOK_of (by decide) | decide +kernel | (refine decide_eq_true ?_; simp (disch := omega) only [i64w]; omega)); conv => whnf)
              | ((with_reducible refine condm_pos ?_ ?_); (· assumption); conv => whnf)
              | ((with_reducible refine condm_neg ?_ ?_); (· assumption); conv => whnf)
              | ((with_reducible refine forceL_fv (by assumption) ?_); conv => whnf)
              | ((with_reducible refine forceL_rfv (by assumption) ?_); conv => whnf)
              | ((with_reducible refine forceNm_of ?_); conv => whnf)
              | ((with_reducible refine needm_of (fv_lenL (by assumption) (by assumption)) ?_); conv => whnf)
              | ((with_reducible refine optm_var (fv_strL (by assumption) (by assumption)) (fun s hs => ?_)); conv => whnf)
              | ((with_reducible refine forceA_of ?_); conv => whnf)
              | ((with_reducible refine forceL_pl (by assumption) ?_); conv => whnf)
              | ((with_reducible refine forceL_rpl (by assumption) ?_); conv => whnf)
              | ((with_reducible apply optm_of); (· first | exact g0 | exact g1); conv => whnf)
              | fail)
            refine forceL_var (l' := i64s (L ++ [((m + 1 : Nat) : Int)] ++ List.replicate (c' - (m + 1)) 0)) (by rw [s3]; simp only [Nat.mul_one]; exact i64s_new (o := m) hls hLm.symm) (fun ls1 hls1 => ?_)
            have hq1 := Pl.i64 hls1
            obtain ⟨J', hJ'⟩ : ∃ J' : List Int, J' = List.replicate (c' - (m + 1)) 0 := ⟨_, rfl⟩
            rw [← hJ'] at hls1
            have hc' : c' = m + 1 + J'.length := by rw [hJ', List.length_replicate]; omega
            obtain ⟨ml', hml'⟩ : ∃ ml', ml' = false := ⟨_, rfl⟩
            clear hc hcc hJ' hcap
            conv => whnf
            repeat' (first
              | ((with_reducible refine regx_of ?_ ?_); (· decide +kernel); conv => whnf)
              | ((with_reducible refine growx_pre ?_ ?_); (· exact ⟨_, rfl⟩); conv => whnf)
              | ((with_reducible refine needm_of ?_ ?_); (· first | assumption | exact decide_eq_true (by omega) | exact mkOK_of (by decide) | decide +kernel | (refine decide_eq_true ?_; simp (disch := omega) only [i64w]; omega)); conv => whnf)
              | ((with_reducible refine condm_pos ?_ ?_); (· assumption); conv => whnf)
              | ((with_reducible refine condm_neg ?_ ?_); (· assumption); conv => whnf)
              | ((with_reducible refine forceL_fv (by assumption) ?_); conv => whnf)
              | ((with_reducible refine forceL_rfv (by assumption) ?_); conv => whnf)
              | ((with_reducible refine forceNm_of ?_); conv => whnf)
              | ((with_reducible refine needm_of (fv_lenL (by assumption) (by assumption)) ?_); conv => whnf)
              | ((with_reducible refine optm_var (fv_strL (by assumption) (by assumption)) (fun s hs => ?_)); conv => whnf)
              | ((with_reducible refine forceA_of ?_); conv => whnf)
              | ((with_reducible refine forceL_pl (by assumption) ?_); conv => whnf)
              | ((with_reducible refine forceL_rpl (by assumption) ?_); conv => whnf)
              | ((with_reducible apply optm_of); (· first | exact g0 | exact g1); conv => whnf)
              | fail)
            rw [e5]
            conv => whnf
            repeat' (first
              | ((with_reducible refine regx_of ?_ ?_); (· decide +kernel); conv => whnf)
              | ((with_reducible refine growx_pre ?_ ?_); (· exact ⟨_, rfl⟩); conv => whnf)
              | ((with_reducible refine needm_of ?_ ?_); (· first | assumption | exact decide_eq_true (by omega) | exact mkOK_of (by decide) | decide +kernel | (refine decide_eq_true ?_; simp (disch := omega) only [i64w]; omega)); conv => whnf)
              | ((with_reducible refine condm_pos ?_ ?_); (· assumption); conv => whnf)
              | ((with_reducible refine condm_neg ?_ ?_); (· assumption); conv => whnf)
              | ((with_reducible refine forceL_fv (by assumption) ?_); conv => whnf)
              | ((with_reducible refine forceL_rfv (by assumption) ?_); conv => whnf)
              | ((with_reducible refine forceNm_of ?_); conv => whnf)
              | ((with_reducible refine needm_of (fv_lenL (by assumption) (by assumption)) ?_); conv => whnf)
              | ((with_reducible refine optm_var (fv_strL (by assumption) (by assumption)) (fun s hs => ?_)); conv => whnf)
              | ((with_reducible refine forceA_of ?_); conv => whnf)
              | ((with_reducible refine forceL_pl (by assumption) ?_); conv => whnf)
              | ((with_reducible refine forceL_rpl (by assumption) ?_); conv => whnf)
              | ((with_reducible apply optm_of); (· first | exact g0 | exact g1); conv => whnf)
              | fail)
            refine loopx_of (fun q F H => ∃ (k : Nat) (x : Int) (ls : List A), a ≤ k ∧ k ≤ m ∧ q = k ∧ ls = i64s (L.take k ++ ([x] ++ L.drop k) ++ J') ∧ F = [(0, .a (.ptr 1 0)), (1, .a (.flt .f64 now)), (5, .a (.slc 2 0 (m + 1) c')), (6, .a (.int .i64 ((m + 1 : Nat) : Int))), (7, .a (.int .i64 (a : Int))), (8, .a (.int .i64 (k : Int)))] ∧ H = [.cells cs 82 mk, .cells [.slc 0 0 n n] 79 false, .cells ls 3 ml']) m ?_ ?_
            · exact Into.weak [0, 1, 4] _ [.cells cs 82 mk, .cells [.slc 0 0 n n] 79 false, .cells ls1 3 ml'] ⟨m, ((m + 1 : Nat) : Int), ls1, by omega, Nat.le_refl _, rfl, by rw [hls1, List.take_of_length_le (by omega), List.drop_of_length_le (by omega), List.append_nil], rfl, rfl⟩ ⟨rfl, rfl, rfl, rfl, rfl, rfl, trivial⟩ ⟨ren_pl hp _ _ _, rfl, by rw [hml']; exact ren_pl hq1 _ _ _, trivial⟩ (by simp [nodupb, baseb, Ob.okb, frmOk, V.okb, A.okb, hp.2, hq1.2] <;> decide)
            · rintro q F H ⟨k, x, ls, hak, hkm, rfl, hls, rfl, rfl⟩
              have hq := Pl.i64 hls
              have hll : ls.length = m + 1 + J'.length := by rw [hls, i64s_length]; simp only [List.length_append, List.length_take, List.length_drop, List.length_cons, List.length_nil]; omega
              conv => whnf
              repeat' (first
                | ((with_reducible refine regx_of ?_ ?_); (· decide +kernel); conv => whnf)
                | ((with_reducible refine growx_pre ?_ ?_); (· exact ⟨_, rfl⟩); conv => whnf)
                | ((with_reducible refine needm_of ?_ ?_); (· first | assumption | exact decide_eq_true (by omega) | exact mkOK_of (by decide) | decide +kernel | (refine decide_eq_true ?_; simp (disch := omega) only [i64w]; omega)); conv => whnf)
                | ((with_reducible refine condm_pos ?_ ?_); (· assumption); conv => whnf)
                | ((with_reducible refine condm_neg ?_ ?_); (· assumption); conv => whnf)
                | ((with_reducible refine forceL_fv (by assumption) ?_); conv => whnf)
                | ((with_reducible refine forceL_rfv (by assumption) ?_); conv => whnf)
                | ((with_reducible refine forceNm_of ?_); conv => whnf)
                | ((with_reducible refine needm_of (fv_lenL (by assumption) (by assumption)) ?_); conv => whnf)
                | ((with_reducible refine optm_var (fv_strL (by assumption) (by assumption)) (fun s hs => ?_)); conv => whnf)
                | ((with_reducible refine forceA_of ?_); conv => whnf)
                | ((with_reducible refine forceL_pl (by assumption) ?_); conv => whnf)
                | ((with_reducible refine forceL_rpl (by assumption) ?_); conv => whnf)
                | ((with_reducible apply optm_of); (· first | exact g0 | exact g1); conv => whnf)
                | fail)
              refine condm_of (fun h => ?_) (fun h => ?_)
              · have hka : a < q := by have := of_decide_eq_true h; omega
                have e3 : IntKind.i64.wrap ((q : Int) - 1) = ((q - 1 : Nat) : Int) := by rw [i64w (by omega) (by omega)]; omega
                obtain ⟨y, hy⟩ : ∃ y, L[q - 1]? = some y := ⟨_, List.getElem?_eq_getElem (by omega)⟩
                have g0 : ls[0 + ((q - 1 : Nat) : Int).toNat * Try.prog.types[3].size]? = some (.int .i64 y) := by
                  rw [s3, Int.toNat_natCast, Nat.zero_add, Nat.mul_one]
                  refine i64s_get hls ?_
                  rw [List.append_assoc, List.getElem?_append_left (by rw [List.length_take]; omega), List.getElem?_take, if_pos (by omega)]
                  exact hy
                conv => whnf
                repeat' (first
                  | ((with_reducible refine regx_of ?_ ?_); (· decide +kernel); conv => whnf)
                  | ((with_reducible refine growx_pre ?_ ?_); (· exact ⟨_, rfl⟩); conv => whnf)
                  | ((with_reducible refine needm_of ?_ ?_); (· first | assumption | exact decide_eq_true (by omega) | exact mkOK_of (by decide) | decide +kernel | (refine decide_eq_true ?_; simp (disch := omega) only [i64w]; omega)); conv => whnf)
                  | ((with_reducible refine condm_pos ?_ ?_); (· assumption); conv => whnf)
                  | ((with_reducible refine condm_neg ?_ ?_); (· assumption); conv => whnf)
                  | ((with_reducible refine forceL_fv (by assumption) ?_); conv => whnf)
                  | ((with_reducible refine forceL_rfv (by assumption) ?_); conv => whnf)
                  | ((with_reducible refine forceNm_of ?_); conv => whnf)
                  | ((with_reducible refine needm_of (fv_lenL (by assumption) (by assumption)) ?_); conv => whnf)
                  | ((with_reducible refine optm_var (fv_strL (by assumption) (by assumption)) (fun s hs => ?_)); conv => whnf)
                  | ((with_reducible refine forceA_of ?_); conv => whnf)
                  | ((with_reducible refine forceL_pl (by assumption) ?_); conv => whnf)
                  | ((with_reducible refine forceL_rpl (by assumption) ?_); conv => whnf)
                  | ((with_reducible apply optm_of); (· first | exact g0 | exact g1); conv => whnf)
                  | fail)
                rw [e3]
                conv => whnf
                repeat' (first
                  | ((with_reducible refine regx_of ?_ ?_); (· decide +kernel); conv => whnf)
                  | ((with_reducible refine growx_pre ?_ ?_); (· exact ⟨_, rfl⟩); conv => whnf)
                  | ((with_reducible refine needm_of ?_ ?_); (· first | assumption | exact decide_eq_true (by omega) | exact mkOK_of (by decide) | decide +kernel | (refine decide_eq_true ?_; simp (disch := omega) only [i64w]; omega)); conv => whnf)
                  | ((with_reducible refine condm_pos ?_ ?_); (· assumption); conv => whnf)
                  | ((with_reducible refine condm_neg ?_ ?_); (· assumption); conv => whnf)
                  | ((with_reducible refine forceL_fv (by assumption) ?_); conv => whnf)
                  | ((with_reducible refine forceL_rfv (by assumption) ?_); conv => whnf)
                  | ((with_reducible refine forceNm_of ?_); conv => whnf)
                  | ((with_reducible refine needm_of (fv_lenL (by assumption) (by assumption)) ?_); conv => whnf)
                  | ((with_reducible refine optm_var (fv_strL (by assumption) (by assumption)) (fun s hs => ?_)); conv => whnf)
                  | ((with_reducible refine forceA_of ?_); conv => whnf)
                  | ((with_reducible refine forceL_pl (by assumption) ?_); conv => whnf)
                  | ((with_reducible refine forceL_rpl (by assumption) ?_); conv => whnf)
                  | ((with_reducible apply optm_of); (· first | exact g0 | exact g1); conv => whnf)
                  | fail)
                refine needm_of (Bool.and_eq_true_iff.2 ⟨rfl, decide_eq_true (by show 0 + (q : Int).toNat * _ + 1 ≤ _; rw [s3, Int.toNat_natCast]; omega)⟩) ?_
                conv => whnf
                repeat' (first
                  | ((with_reducible refine regx_of ?_ ?_); (· decide +kernel); conv => whnf)
                  | ((with_reducible refine growx_pre ?_ ?_); (· exact ⟨_, rfl⟩); conv => whnf)
                  | ((with_reducible refine needm_of ?_ ?_); (· first | assumption | exact decide_eq_true (by omega) | exact mkOK_of (by decide) | decide +kernel | (refine decide_eq_true ?_; simp (disch := omega) only [i64w]; omega)); conv => whnf)
                  | ((with_reducible refine condm_pos ?_ ?_); (· assumption); conv => whnf)
                  | ((with_reducible refine condm_neg ?_ ?_); (· assumption); conv => whnf)
                  | ((with_reducible refine forceL_fv (by assumption) ?_); conv => whnf)
                  | ((with_reducible refine forceL_rfv (by assumption) ?_); conv => whnf)
                  | ((with_reducible refine forceNm_of ?_); conv => whnf)
                  | ((with_reducible refine needm_of (fv_lenL (by assumption) (by assumption)) ?_); conv => whnf)
                  | ((with_reducible refine optm_var (fv_strL (by assumption) (by assumption)) (fun s hs => ?_)); conv => whnf)
                  | ((with_reducible refine forceA_of ?_); conv => whnf)
                  | ((with_reducible refine forceL_pl (by assumption) ?_); conv => whnf)
                  | ((with_reducible refine forceL_rpl (by assumption) ?_); conv => whnf)
                  | ((with_reducible apply optm_of); (· first | exact g0 | exact g1); conv => whnf)
                  | fail)
                refine forceL_var (l' := i64s (L.take (q - 1) ++ ([y] ++ L.drop (q - 1)) ++ J')) (shift_row hls (by omega) hy (by rw [s3, Int.toNat_natCast, Nat.zero_add, Nat.mul_one])) (fun ls2 hls2 => ?_)
                have hq2 := Pl.i64 hls2
                conv => whnf
                repeat' (first
                  | ((with_reducible refine regx_of ?_ ?_); (· decide +kernel); conv => whnf)
                  | ((with_reducible refine growx_pre ?_ ?_); (· exact ⟨_, rfl⟩); conv => whnf)
                  | ((with_reducible refine needm_of ?_ ?_); (· first | assumption | exact decide_eq_true (by omega) | exact mkOK_of (by decide) | decide +kernel | (refine decide_eq_true ?_; simp (disch := omega) only [i64w]; omega)); conv => whnf)
                  | ((with_reducible refine condm_pos ?_ ?_); (· assumption); conv => whnf)
                  | ((with_reducible refine condm_neg ?_ ?_); (· assumption); conv => whnf)
                  | ((with_reducible refine forceL_fv (by assumption) ?_); conv => whnf)
                  | ((with_reducible refine forceL_rfv (by assumption) ?_); conv => whnf)
                  | ((with_reducible refine forceNm_of ?_); conv => whnf)
                  | ((with_reducible refine needm_of (fv_lenL (by assumption) (by assumption)) ?_); conv => whnf)
                  | ((with_reducible refine optm_var (fv_strL (by assumption) (by assumption)) (fun s hs => ?_)); conv => whnf)
                  | ((with_reducible refine forceA_of ?_); conv => whnf)
                  | ((with_reducible refine forceL_pl (by assumption) ?_); conv => whnf)
                  | ((with_reducible refine forceL_rpl (by assumption) ?_); conv => whnf)
                  | ((with_reducible apply optm_of); (· first | exact g0 | exact g1); conv => whnf)
                  | fail)
                refine ⟨q - 1, by omega, Into.weak [0, 1, 2] _ [.cells cs 82 mk, .cells [.slc 0 0 n n] 79 false, .cells ls2 3 ml'] ⟨q - 1, y, ls2, by omega, by omega, rfl, hls2, rfl, rfl⟩ ⟨rfl, rfl, rfl, rfl, rfl, congrArg (fun z => some (V.a (.int .i64 z))) e3, trivial⟩ ⟨ren_pl hp _ _ _, rfl, ren_pl hq2 _ _ _, trivial⟩ (by simp [nodupb, baseb, Ob.okb, frmOk, V.okb, A.okb, hp.2, hq2.2] <;> decide)⟩
              · have hka : q = a := by have := of_decide_eq_false h; omega
                subst hka
                conv => whnf
                repeat' (first
                  | ((with_reducible refine regx_of ?_ ?_); (· decide +kernel); conv => whnf)
                  | ((with_reducible refine growx_pre ?_ ?_); (· exact ⟨_, rfl⟩); conv => whnf)
                  | ((with_reducible refine needm_of ?_ ?_); (· first | assumption | exact decide_eq_true (by omega) | exact mkOK_of (by decide) | decide +kernel | (refine decide_eq_true ?_; simp (disch := omega) only [i64w]; omega)); conv => whnf)
                  | ((with_reducible refine condm_pos ?_ ?_); (· assumption); conv => whnf)
                  | ((with_reducible refine condm_neg ?_ ?_); (· assumption); conv => whnf)
                  | ((with_reducible refine forceL_fv (by assumption) ?_); conv => whnf)
                  | ((with_reducible refine forceL_rfv (by assumption) ?_); conv => whnf)
                  | ((with_reducible refine forceNm_of ?_); conv => whnf)
                  | ((with_reducible refine needm_of (fv_lenL (by assumption) (by assumption)) ?_); conv => whnf)
                  | ((with_reducible refine optm_var (fv_strL (by assumption) (by assumption)) (fun s hs => ?_)); conv => whnf)
                  | ((with_reducible refine forceA_of ?_); conv => whnf)
                  | ((with_reducible refine forceL_pl (by assumption) ?_); conv => whnf)
                  | ((with_reducible refine forceL_rpl (by assumption) ?_); conv => whnf)
                  | ((with_reducible apply optm_of); (· first | exact g0 | exact g1); conv => whnf)
                  | fail)
                refine needm_of (Bool.and_eq_true_iff.2 ⟨rfl, decide_eq_true (by show 0 + (q : Int).toNat * _ + 1 ≤ _; rw [s3, Int.toNat_natCast]; omega)⟩) ?_
                conv => whnf
                repeat' (first
                  | ((with_reducible refine regx_of ?_ ?_); (· decide +kernel); conv => whnf)
                  | ((with_reducible refine growx_pre ?_ ?_); (· exact ⟨_, rfl⟩); conv => whnf)
                  | ((with_reducible refine needm_of ?_ ?_); (· first | assumption | exact decide_eq_true (by omega) | exact mkOK_of (by decide) | decide +kernel | (refine decide_eq_true ?_; simp (disch := omega) only [i64w]; omega)); conv => whnf)
                  | ((with_reducible refine condm_pos ?_ ?_); (· assumption); conv => whnf)
                  | ((with_reducible refine condm_neg ?_ ?_); (· assumption); conv => whnf)
                  | ((with_reducible refine forceL_fv (by assumption) ?_); conv => whnf)
                  | ((with_reducible refine forceL_rfv (by assumption) ?_); conv => whnf)
                  | ((with_reducible refine forceNm_of ?_); conv => whnf)
                  | ((with_reducible refine needm_of (fv_lenL (by assumption) (by assumption)) ?_); conv => whnf)
                  | ((with_reducible refine optm_var (fv_strL (by assumption) (by assumption)) (fun s hs => ?_)); conv => whnf)
                  | ((with_reducible refine forceA_of ?_); conv => whnf)
                  | ((with_reducible refine forceL_pl (by assumption) ?_); conv => whnf)
                  | ((with_reducible refine forceL_rpl (by assumption) ?_); conv => whnf)
                  | ((with_reducible apply optm_of); (· first | exact g0 | exact g1); conv => whnf)
                  | fail)
                refine forceL_var (l' := i64s ((L.take q ++ [((m + 1 : Nat) : Int)] ++ L.drop q) ++ J')) (place_row hls (by omega) (by rw [s3, Int.toNat_natCast, Nat.zero_add, Nat.mul_one])) (fun ls2 hls2 => ?_)
                have hq2 := Pl.i64 hls2
                have e9 : IntKind.i64.wrap (((m + 1 : Nat) : Int) + 1) = ((m + 1 + 1 : Nat) : Int) := by rw [i64w (by omega) (by omega)]; rfl
                conv => whnf
                repeat' (first
                  | ((with_reducible refine regx_of ?_ ?_); (· decide +kernel); conv => whnf)
                  | ((with_reducible refine growx_pre ?_ ?_); (· exact ⟨_, rfl⟩); conv => whnf)
                  | ((with_reducible refine needm_of ?_ ?_); (· first | assumption | exact decide_eq_true (by omega) | exact mkOK_of (by decide) | decide +kernel | (refine decide_eq_true ?_; simp (disch := omega) only [i64w]; omega)); conv => whnf)
                  | ((with_reducible refine condm_pos ?_ ?_); (· assumption); conv => whnf)
                  | ((with_reducible refine condm_neg ?_ ?_); (· assumption); conv => whnf)
                  | ((with_reducible refine forceL_fv (by assumption) ?_); conv => whnf)
                  | ((with_reducible refine forceL_rfv (by assumption) ?_); conv => whnf)
                  | ((with_reducible refine forceNm_of ?_); conv => whnf)
                  | ((with_reducible refine needm_of (fv_lenL (by assumption) (by assumption)) ?_); conv => whnf)
                  | ((with_reducible refine optm_var (fv_strL (by assumption) (by assumption)) (fun s hs => ?_)); conv => whnf)
                  | ((with_reducible refine forceA_of ?_); conv => whnf)
                  | ((with_reducible refine forceL_pl (by assumption) ?_); conv => whnf)
                  | ((with_reducible refine forceL_rpl (by assumption) ?_); conv => whnf)
                  | ((with_reducible apply optm_of); (· first | exact g0 | exact g1); conv => whnf)
                  | fail)
                refine ⟨n - (m + 1), by omega, Into.weak [0, 1, 2] _ [.cells cs 82 mk, .cells [.slc 0 0 n n] 79 false, .cells ls2 3 ml'] ⟨m + 1, L.take q ++ [((m + 1 : Nat) : Int)] ++ L.drop q, J', ls2, c', ml', by omega, rfl, hS.ins rfl (by omega) hup hlow, hls2, hc', rfl, rfl⟩ ⟨rfl, rfl, rfl, congrArg (fun z => some (V.a (.int .i64 z))) e9, trivial⟩ ⟨ren_pl hp _ _ _, rfl, ren_pl hq2 _ _ _, trivial⟩ (by simp [nodupb, baseb, Ob.okb, frmOk, V.okb, A.okb, hp.2, hq2.2] <;> decide)⟩
        · have c0 : decide ((q : Int) > 0) = true := decide_eq_true (by omega)
          have e3 : IntKind.i64.wrap ((q : Int) - 1) = ((q - 1 : Nat) : Int) := by rw [i64w (by omega) (by omega)]; omega
          obtain ⟨y, hy⟩ : ∃ y, L[q - 1]? = some y := ⟨_, List.getElem?_eq_getElem (by omega)⟩
          have g0 : ls[0 + ((q - 1 : Nat) : Int).toNat * Try.prog.types[3].size]? = some (.int .i64 y) := by
            rw [s3, Int.toNat_natCast, Nat.zero_add, Nat.mul_one]
            exact i64s_get hls (by rw [List.getElem?_append_left (by omega)]; exact hy)
          conv => whnf
          repeat' (first
            | ((with_reducible refine regx_of ?_ ?_); (· decide +kernel); conv => whnf)
            | ((with_reducible refine growx_pre ?_ ?_); (· exact ⟨_, rfl⟩); conv => whnf)
            | ((with_reducible refine needm_of ?_ ?_); (· first | assumption | exact decide_eq_true (by omega) | exact mkOK_of (by decide) | decide +kernel | (refine decide_eq_true ?_; simp (disch := omega) only [i64w]; omega)); conv => whnf)
            | ((with_reducible refine condm_pos ?_ ?_); (· assumption); conv => whnf)
            | ((with_reducible refine condm_neg ?_ ?_); (· assumption); conv => whnf)
            | ((with_reducible refine forceL_fv (by assumption) ?_); conv => whnf)
            | ((with_reducible refine forceL_rfv (by assumption) ?_); conv => whnf)
            | ((with_reducible refine forceNm_of ?_); conv => whnf)
            | ((with_reducible refine needm_of (fv_lenL (by assumption) (by assumption)) ?_); conv => whnf)
            | ((with_reducible refine optm_var (fv_strL (by assumption) (by assumption)) (fun s hs => ?_)); conv => whnf)
            | ((with_reducible refine forceA_of ?_); conv => whnf)
            | ((with_reducible refine forceL_pl (by assumption) ?_); conv => whnf)
            | ((with_reducible refine forceL_rpl (by assumption) ?_); conv => whnf)
            | ((with_reducible apply optm_of); (· first | exact g0 | exact g1); conv => whnf)
            | fail)
          rw [e3]
          conv => whnf
          repeat' (first
            | ((with_reducible refine regx_of ?_ ?_); (· decide +kernel); conv => whnf)
            | ((with_reducible refine growx_pre ?_ ?_); (· exact ⟨_, rfl⟩); conv => whnf)
            | ((with_reducible refine needm_of ?_ ?_); (· first | assumption | exact decide_eq_true (by omega) | exact mkOK_of (by decide) | decide +kernel | (refine decide_eq_true ?_; simp (disch := omega) only [i64w]; omega)); conv => whnf)
            | ((with_reducible refine condm_pos ?_ ?_); (· assumption); conv => whnf)
            | ((with_reducible refine condm_neg ?_ ?_); (· assumption); conv => whnf)
            | ((with_reducible refine forceL_fv (by assumption) ?_); conv => whnf)
            | ((with_reducible refine forceL_rfv (by assumption) ?_); conv => whnf)
            | ((with_reducible refine forceNm_of ?_); conv => whnf)
            | ((with_reducible refine needm_of (fv_lenL (by assumption) (by assumption)) ?_); conv => whnf)
            | ((with_reducible refine optm_var (fv_strL (by assumption) (by assumption)) (fun s hs => ?_)); conv => whnf)
            | ((with_reducible refine forceA_of ?_); conv => whnf)
            | ((with_reducible refine forceL_pl (by assumption) ?_); conv => whnf)
            | ((with_reducible refine forceL_rpl (by assumption) ?_); conv => whnf)
            | ((with_reducible apply optm_of); (· first | exact g0 | exact g1); conv => whnf)
            | fail)
          refine Go.Eng.Fn.frame [0, 1] (by rfl) (by exact ⟨ren_pl hp _ _ _, rfl, trivial⟩) (by simp [nodupb, V.okb, A.okb, Ob.okb, hp.2] <;> decide) (score49 P cs n mk hcs hn hn5 y now (fun s1 hs1 => ?_))
          conv => whnf
          repeat' (first
            | ((with_reducible refine regx_of ?_ ?_); (· decide +kernel); conv => whnf)
            | ((with_reducible refine growx_pre ?_ ?_); (· exact ⟨_, rfl⟩); conv => whnf)
            | ((with_reducible refine needm_of ?_ ?_); (· first | assumption | exact decide_eq_true (by omega) | exact mkOK_of (by decide) | decide +kernel | (refine decide_eq_true ?_; simp (disch := omega) only [i64w]; omega)); conv => whnf)
            | ((with_reducible refine condm_pos ?_ ?_); (· assumption); conv => whnf)
            | ((with_reducible refine condm_neg ?_ ?_); (· assumption); conv => whnf)
            | ((with_reducible refine forceL_fv (by assumption) ?_); conv => whnf)
            | ((with_reducible refine forceL_rfv (by assumption) ?_); conv => whnf)
            | ((with_reducible refine forceNm_of ?_); conv => whnf)
            | ((with_reducible refine needm_of (fv_lenL (by assumption) (by assumption)) ?_); conv => whnf)
            | ((with_reducible refine optm_var (fv_strL (by assumption) (by assumption)) (fun s hs => ?_)); conv => whnf)
            | ((with_reducible refine forceA_of ?_); conv => whnf)
            | ((with_reducible refine forceL_pl (by assumption) ?_); conv => whnf)
            | ((with_reducible refine forceL_rpl (by assumption) ?_); conv => whnf)
            | ((with_reducible apply optm_of); (· first | exact g0 | exact g1); conv => whnf)
            | fail)
          refine Go.Eng.Fn.frame [0, 1] (by rfl) (by exact ⟨ren_pl hp _ _ _, rfl, trivial⟩) (by simp [nodupb, V.okb, A.okb, Ob.okb, hp.2] <;> decide) (score49 P cs n mk hcs hn hn5 ((m + 1 : Nat) : Int) now (fun s2 hs2 => ?_))
          conv => whnf
          repeat' (first
            | ((with_reducible refine regx_of ?_ ?_); (· decide +kernel); conv => whnf)
            | ((with_reducible refine growx_pre ?_ ?_); (· exact ⟨_, rfl⟩); conv => whnf)
            | ((with_reducible refine needm_of ?_ ?_); (· first | assumption | exact decide_eq_true (by omega) | exact mkOK_of (by decide) | decide +kernel | (refine decide_eq_true ?_; simp (disch := omega) only [i64w]; omega)); conv => whnf)
            | ((with_reducible refine condm_pos ?_ ?_); (· assumption); conv => whnf)
            | ((with_reducible refine condm_neg ?_ ?_); (· assumption); conv => whnf)
            | ((with_reducible refine forceL_fv (by assumption) ?_); conv => whnf)
            | ((with_reducible refine forceL_rfv (by assumption) ?_); conv => whnf)
            | ((with_reducible refine forceNm_of ?_); conv => whnf)
            | ((with_reducible refine needm_of (fv_lenL (by assumption) (by assumption)) ?_); conv => whnf)
            | ((with_reducible refine optm_var (fv_strL (by assumption) (by assumption)) (fun s hs => ?_)); conv => whnf)
            | ((with_reducible refine forceA_of ?_); conv => whnf)
            | ((with_reducible refine forceL_pl (by assumption) ?_); conv => whnf)
            | ((with_reducible refine forceL_rpl (by assumption) ?_); conv => whnf)
            | ((with_reducible apply optm_of); (· first | exact g0 | exact g1); conv => whnf)
            | fail)
          have hls0 : less s1 s2 = keyLess (sk P now y) (sk P now ((m + 1 : Nat) : Int)) := by rw [less_key, sk_of hs1, sk_of hs2]
          refine Go.Eng.Fn.frame [] (by rfl) (by exact trivial) (by rfl) (less12 s1 s2 ?_)
          cases hle : less s1 s2 with
          | true =>
            rw [hle] at hls0
            conv => whnf
            repeat' (first
              | ((with_reducible refine regx_of ?_ ?_); (· decide +kernel); conv => whnf)
              | ((with_reducible refine growx_pre ?_ ?_); (· exact ⟨_, rfl⟩); conv => whnf)
              | ((with_reducible refine needm_of ?_ ?_); (· first | assumption | exact decide_eq_true (by omega) | exact mkOK_of (by decide) | decide +kernel | (refine decide_eq_true ?_; simp (disch := omega) only [i64w]; omega)); conv => whnf)
              | ((with_reducible refine condm_pos ?_ ?_); (· assumption); conv => whnf)
              | ((with_reducible refine condm_neg ?_ ?_); (· assumption); conv => whnf)
              | ((with_reducible refine forceL_fv (by assumption) ?_); conv => whnf)
              | ((with_reducible refine forceL_rfv (by assumption) ?_); conv => whnf)
              | ((with_reducible refine forceNm_of ?_); conv => whnf)
              | ((with_reducible refine needm_of (fv_lenL (by assumption) (by assumption)) ?_); conv => whnf)
              | ((with_reducible refine optm_var (fv_strL (by assumption) (by assumption)) (fun s hs => ?_)); conv => whnf)
              | ((with_reducible refine forceA_of ?_); conv => whnf)
              | ((with_reducible refine forceL_pl (by assumption) ?_); conv => whnf)
              | ((with_reducible refine forceL_rpl (by assumption) ?_); conv => whnf)
              | ((with_reducible apply optm_of); (· first | exact g0 | exact g1); conv => whnf)
              | fail)
            refine ⟨q - 1, by omega, Into.weak [0, 1, 2] _ [.cells cs 82 mk, .cells [.slc 0 0 n n] 79 false, .cells ls 3 ml] ⟨q - 1, by omega, rfl, fun p z hp1 hz => ?_, rfl, rfl⟩ ⟨rfl, rfl, rfl, rfl, congrArg (fun z => some (V.a (.int .i64 z))) e3, trivial⟩ ⟨ren_pl hp _ _ _, rfl, ren_pl hq _ _ _, trivial⟩ (by simp [nodupb, baseb, Ob.okb, frmOk, V.okb, A.okb, hp.2, hq.2] <;> decide)⟩
            by_cases e : p = q - 1
            · subst e; rw [hy] at hz; injection hz with hz; subst hz; exact hls0.symm
            · exact hup p z (by omega) hz
          | false =>
            rw [hle] at hls0
            have hlow : q = 0 ∨ ∃ y, L[q - 1]? = some y ∧ keyLess (sk P now y) (sk P now ((m + 1 : Nat) : Int)) = false := .inr ⟨y, hy, hls0.symm⟩
            obtain ⟨a, haq⟩ : ∃ a, a = q := ⟨_, rfl⟩
            rw [← haq] at hlow hup ham c0 ⊢
            clear haq ha0 e3 hy g0 hls0 hle
            conv => whnf
            repeat' (first
              | ((with_reducible refine regx_of ?_ ?_); (· decide +kernel); conv => whnf)
              | ((with_reducible refine growx_pre ?_ ?_); (· exact ⟨_, rfl⟩); conv => whnf)
              | ((with_reducible refine needm_of ?_ ?_); (· first | assumption | exact decide_eq_true (by omega) | exact mkOK_of (by decide) | decide +kernel | (refine decide_eq_true ?_; simp (disch := omega) only [i64w]; omega)); conv => whnf)
              | ((with_reducible refine condm_pos ?_ ?_); (· assumption); conv => whnf)
              | ((with_reducible refine condm_neg ?_ ?_); (· assumption); conv => whnf)
              | ((with_reducible refine forceL_fv (by assumption) ?_); conv => whnf)
              | ((with_reducible refine forceL_rfv (by assumption) ?_); conv => whnf)
              | ((with_reducible refine forceNm_of ?_); conv => whnf)
              | ((with_reducible refine needm_of (fv_lenL (by assumption) (by assumption)) ?_); conv => whnf)
              | ((with_reducible refine optm_var (fv_strL (by assumption) (by assumption)) (fun s hs => ?_)); conv => whnf)
              | ((with_reducible refine forceA_of ?_); conv => whnf)
              | ((with_reducible refine forceL_pl (by assumption) ?_); conv => whnf)
              | ((with_reducible refine forceL_rpl (by assumption) ?_); conv => whnf)
              | ((with_reducible apply optm_of); (· first | exact g0 | exact g1); conv => whnf)
              | fail)
            conv => whnf
            repeat' (first
              | ((with_reducible refine regx_of ?_ ?_); (· decide +kernel); conv => whnf)
              | ((with_reducible refine growx_pre ?_ ?_); (· exact ⟨_, rfl⟩); conv => whnf)
              | ((with_reducible refine needm_of ?_ ?_); (· first | assumption | exact decide_eq_true (by omega) | exact mkOK_of (by decide) | decide +kernel | (refine decide_eq_true ?_; simp (disch := omega) only [i64w]; omega)); conv => whnf)
              | ((with_reducible refine condm_pos ?_ ?_); (· assumption); conv => whnf)
              | ((with_reducible refine condm_neg ?_ ?_); (· assumption); conv => whnf)
              | ((with_reducible refine forceL_fv (by assumption) ?_); conv => whnf)
              | ((with_reducible refine forceL_rfv (by assumption) ?_); conv => whnf)
              | ((with_reducible refine forceNm_of ?_); conv => whnf)
              | ((with_reducible refine needm_of (fv_lenL (by assumption) (by assumption)) ?_); conv => whnf)
              | ((with_reducible refine optm_var (fv_strL (by assumption) (by assumption)) (fun s hs => ?_)); conv => whnf)
              | ((with_reducible refine forceA_of ?_); conv => whnf)
              | ((with_reducible refine forceL_pl (by assumption) ?_); conv => whnf)
              | ((with_reducible refine forceL_rpl (by assumption) ?_); conv => whnf)
              | ((with_reducible apply optm_of); (· first | exact g0 | exact g1); conv => whnf)
              | fail)
            have e5 : IntKind.i64.wrap (((m + 1 : Nat) : Int) - 1) = (m : Int) := by rw [i64w (by omega) (by omega)]; omega
            refine condm_of (fun hc => ?_) (fun hc => ?_)
            · have hcc := of_decide_eq_true hc
              conv => whnf
              refine needm_of (decide_eq_true (by rw [s3]; show 0 + m * 1 + 1 ≤ ls.length; omega)) ?_
              conv => whnf
              repeat' (first
                | ((with_reducible refine regx_of ?_ ?_); (· decide +kernel); conv => whnf)
                | ((with_reducible refine growx_pre ?_ ?_); (· exact ⟨_, rfl⟩); conv => whnf)
                | ((with_reducible refine needm_of ?_ ?_); (· first | assumption | exact decide_eq_true (by omega) | exact mkOK_of (by decide) | decide +kernel | (refine decide_eq_true ?_; simp (disch := omega) only [i64w]; omega)); conv => whnf)
                | ((with_reducible refine condm_pos ?_ ?_); (· assumption); conv => whnf)
                | ((with_reducible refine condm_neg ?_ ?_); (· assumption); conv => whnf)
                | ((with_reducible refine forceL_fv (by assumption) ?_); conv => whnf)
                | ((with_reducible refine forceL_rfv (by assumption) ?_); conv => whnf)
                | ((with_reducible refine forceNm_of ?_); conv => whnf)
                | ((with_reducible refine needm_of (fv_lenL (by assumption) (by assumption)) ?_); conv => whnf)
                | ((with_reducible refine optm_var (fv_strL (by assumption) (by assumption)) (fun s hs => ?_)); conv => whnf)
                | ((with_reducible refine forceA_of ?_); conv => whnf)
                | ((with_reducible refine forceL_pl (by assumption) ?_); conv => whnf)
                | ((with_reducible refine forceL_rpl (by assumption) ?_); conv => whnf)
                | ((with_reducible apply optm_of); (· first | exact g0 | exact g1); conv => whnf)
                | fail)
              refine forceL_var (l' := i64s (L ++ [((m + 1 : Nat) : Int)] ++ J.tail)) (by rw [s3]; exact i64s_in hls (by omega) (by omega)) (fun ls1 hls1 => ?_)
              have hq1 := Pl.i64 hls1
              obtain ⟨J', hJ'⟩ : ∃ J', J' = J.tail := ⟨_, rfl⟩
              rw [← hJ'] at hls1
              obtain ⟨c', hcc'⟩ : ∃ c', c' = c := ⟨_, rfl⟩
              rw [← hcc']
              have hc' : c' = m + 1 + J'.length := by rw [hJ', List.length_tail]; omega
              obtain ⟨ml', hml'⟩ : ∃ ml', ml' = ml := ⟨_, rfl⟩
              rw [← hml']
              clear hc hcc hcc' hml' hJ'
              conv => whnf
              repeat' (first
                | ((with_reducible refine regx_of ?_ ?_); (· decide +kernel); conv => whnf)
                | ((with_reducible refine growx_pre ?_ ?_); (· exact ⟨_, rfl⟩); conv => whnf)
                | ((with_reducible refine needm_of ?_ ?_); (· first | assumption | exact decide_eq_true (by omega) | exact mkOK_of (by decide) | decide +kernel | (refine decide_eq_true ?_; simp (disch := omega) only [i64w]; omega)); conv => whnf)
                | ((with_reducible refine condm_pos ?_ ?_); (· assumption); conv => whnf)
                | ((with_reducible refine condm_neg ?_ ?_); (· assumption); conv => whnf)
                | ((with_reducible refine forceL_fv (by assumption) ?_); conv => whnf)
                | ((with_reducible refine forceL_rfv (by assumption) ?_); conv => whnf)
                | ((with_reducible refine forceNm_of ?_); conv => whnf)
                | ((with_reducible refine needm_of (fv_lenL (by assumption) (by assumption)) ?_); conv => whnf)
                | ((with_reducible refine optm_var (fv_strL (by assumption) (by assumption)) (fun s hs => ?_)); conv => whnf)
                | ((with_reducible refine forceA_of ?_); conv => whnf)
                | ((with_reducible refine forceL_pl (by assumption) ?_); conv => whnf)
                | ((with_reducible refine forceL_rpl (by assumption) ?_); conv => whnf)
                | ((with_reducible apply optm_of); (· first | exact g0 | exact g1); conv => whnf)
                | fail)
              rw [e5]
              conv => whnf
              repeat' (first
                | ((with_reducible refine regx_of ?_ ?_); (· decide +kernel); conv => whnf)
                | ((with_reducible refine growx_pre ?_ ?_); (· exact ⟨_, rfl⟩); conv => whnf)
                | ((with_reducible refine needm_of ?_ ?_); (· first | assumption | exact decide_eq_true (by omega) | exact mkOK_of (by decide) | decide +kernel | (refine decide_eq_true ?_; simp (disch := omega) only [i64w]; omega)); conv => whnf)
                | ((with_reducible refine condm_pos ?_ ?_); (· assumption); conv => whnf)
                | ((with_reducible refine condm_neg ?_ ?_); (· assumption); conv => whnf)
                | ((with_reducible refine forceL_fv (by assumption) ?_); conv => whnf)
                | ((with_reducible refine forceL_rfv (by assumption) ?_); conv => whnf)
                | ((with_reducible refine forceNm_of ?_); conv => whnf)
                | ((with_reducible refine needm_of (fv_lenL (by assumption) (by assumption)) ?_); conv => whnf)
                | ((with_reducible refine optm_var (fv_strL (by assumption) (by assumption)) (fun s hs => ?_)); conv => whnf)
                | ((with_reducible refine forceA_of ?_); conv => whnf)
                | ((with_reducible refine forceL_pl (by assumption) ?_); conv => whnf)
                | ((with_reducible refine forceL_rpl (by assumption) ?_); conv => whnf)
                | ((with_reducible apply optm_of); (· first | exact g0 | exact g1); conv => whnf)
                | fail)
              refine loopx_of (fun q F H => ∃ (k : Nat) (x : Int) (ls : List A), a ≤ k ∧ k ≤ m ∧ q = k ∧ ls = i64s (L.take k ++ ([x] ++ L.drop k) ++ J') ∧ F = [(0, .a (.ptr 1 0)), (1, .a (.flt .f64 now)), (5, .a (.slc 2 0 (m + 1) c')), (6, .a (.int .i64 ((m + 1 : Nat) : Int))), (7, .a (.int .i64 (a : Int))), (8, .a (.int .i64 (k : Int)))] ∧ H = [.cells cs 82 mk, .cells [.slc 0 0 n n] 79 false, .cells ls 3 ml']) m ?_ ?_
              · exact Into.weak [0, 1, 2] _ [.cells cs 82 mk, .cells [.slc 0 0 n n] 79 false, .cells ls1 3 ml'] ⟨m, ((m + 1 : Nat) : Int), ls1, by omega, Nat.le_refl _, rfl, by rw [hls1, List.take_of_length_le (by omega), List.drop_of_length_le (by omega), List.append_nil], rfl, rfl⟩ ⟨rfl, rfl, rfl, rfl, rfl, rfl, trivial⟩ ⟨ren_pl hp _ _ _, rfl, ren_pl hq1 _ _ _, trivial⟩ (by simp [nodupb, baseb, Ob.okb, frmOk, V.okb, A.okb, hp.2, hq1.2] <;> decide)
              · rintro q F H ⟨k, x, ls, hak, hkm, rfl, hls, rfl, rfl⟩
                have hq := Pl.i64 hls
                have hll : ls.length = m + 1 + J'.length := by rw [hls, i64s_length]; simp only [List.length_append, List.length_take, List.length_drop, List.length_cons, List.length_nil]; omega
                conv => whnf
                repeat' (first
                  | ((with_reducible refine regx_of ?_ ?_); (· decide +kernel); conv => whnf)
                  | ((with_reducible refine growx_pre ?_ ?_); (· exact ⟨_, rfl⟩); conv => whnf)
                  | ((with_reducible refine needm_of ?_ ?_); (· first | assumption | exact decide_eq_true (by omega) | exact mkOK_of (by decide) | decide +kernel | (refine decide_eq_true ?_; simp (disch := omega) only [i64w]; omega)); conv => whnf)
                  | ((with_reducible refine condm_pos ?_ ?_); (· assumption); conv => whnf)
                  | ((with_reducible refine condm_neg ?_ ?_); (· assumption); conv => whnf)
                  | ((with_reducible refine forceL_fv (by assumption) ?_); conv => whnf)
                  | ((with_reducible refine forceL_rfv (by assumption) ?_); conv => whnf)
                  | ((with_reducible refine forceNm_of ?_); conv => whnf)
                  | ((with_reducible refine needm_of (fv_lenL (by assumption) (by assumption)) ?_); conv => whnf)
                  | ((with_reducible refine optm_var (fv_strL (by assumption) (by assumption)) (fun s hs => ?_)); conv => whnf)
                  | ((with_reducible refine forceA_of ?_); conv => whnf)
                  | ((with_reducible refine forceL_pl (by assumption) ?_); conv => whnf)
                  | ((with_reducible refine forceL_rpl (by assumption) ?_); conv => whnf)
                  | ((with_reducible apply optm_of); (· first | exact g0 | exact g1); conv => whnf)
                  | fail)
                refine condm_of (fun h => ?_) (fun h => ?_)
                · have hka : a < q := by have := of_decide_eq_true h; omega
                  have e3 : IntKind.i64.wrap ((q : Int) - 1) = ((q - 1 : Nat) : Int) := by rw [i64w (by omega) (by omega)]; omega
                  obtain ⟨y, hy⟩ : ∃ y, L[q - 1]? = some y := ⟨_, List.getElem?_eq_getElem (by omega)⟩
                  have g0 : ls[0 + ((q - 1 : Nat) : Int).toNat * Try.prog.types[3].size]? = some (.int .i64 y) := by
                    rw [s3, Int.toNat_natCast, Nat.zero_add, Nat.mul_one]
                    refine i64s_get hls ?_
                    rw [List.append_assoc, List.getElem?_append_left (by rw [List.length_take]; omega), List.getElem?_take, if_pos (by omega)]
                    exact hy
                  conv => whnf
                  repeat' (first
                    | ((with_reducible refine regx_of ?_ ?_); (· decide +kernel); conv => whnf)
                    | ((with_reducible refine growx_pre ?_ ?_); (· exact ⟨_, rfl⟩); conv => whnf)
                    | ((with_reducible refine needm_of ?_ ?_); (· first | assumption | exact decide_eq_true (by omega) | exact mkOK_of (by decide) | decide +kernel | (refine decide_eq_true ?_; simp (disch := omega) only [i64w]; omega)); conv => whnf)
                    | ((with_reducible refine condm_pos ?_ ?_); (· assumption); conv => whnf)
                    | ((with_reducible refine condm_neg ?_ ?_); (· assumption); conv => whnf)
                    | ((with_reducible refine forceL_fv (by assumption) ?_); conv => whnf)
                    | ((with_reducible refine forceL_rfv (by assumption) ?_); conv => whnf)
                    | ((with_reducible refine forceNm_of ?_); conv => whnf)
                    | ((with_reducible refine needm_of (fv_lenL (by assumption) (by assumption)) ?_); conv => whnf)
                    | ((with_reducible refine optm_var (fv_strL (by assumption) (by assumption)) (fun s hs => ?_)); conv => whnf)
                    | ((with_reducible refine forceA_of ?_); conv => whnf)
                    | ((with_reducible refine forceL_pl (by assumption) ?_); conv => whnf)
                    | ((with_reducible refine forceL_rpl (by assumption) ?_); conv => whnf)
                    | ((with_reducible apply optm_of); (· first | exact g0 | exact g1); conv => whnf)
                    | fail)
                  rw [e3]
                  conv => whnf
                  repeat' (first
                    | ((with_reducible refine regx_of ?_ ?_); (· decide +kernel); conv => whnf)
                    | ((with_reducible refine growx_pre ?_ ?_); (· exact ⟨_, rfl⟩); conv => whnf)
                    | ((with_reducible refine needm_of ?_ ?_); (· first | assumption | exact decide_eq_true (by omega) | exact mkOK_of (by decide) | decide +kernel | (refine decide_eq_true ?_; simp (disch := omega) only [i64w]; omega)); conv => whnf)
                    | ((with_reducible refine condm_pos ?_ ?_); (· assumption); conv => whnf)
                    | ((with_reducible refine condm_neg ?_ ?_); (· assumption); conv => whnf)
                    | ((with_reducible refine forceL_fv (by assumption) ?_); conv => whnf)
                    | ((with_reducible refine forceL_rfv (by assumption) ?_); conv => whnf)
                    | ((with_reducible refine forceNm_of ?_); conv => whnf)
                    | ((with_reducible refine needm_of (fv_lenL (by assumption) (by assumption)) ?_); conv => whnf)
                    | ((with_reducible refine optm_var (fv_strL (by assumption) (by assumption)) (fun s hs => ?_)); conv => whnf)
                    | ((with_reducible refine forceA_of ?_); conv => whnf)
                    | ((with_reducible refine forceL_pl (by assumption) ?_); conv => whnf)
                    | ((with_reducible refine forceL_rpl (by assumption) ?_); conv => whnf)
                    | ((with_reducible apply optm_of); (· first | exact g0 | exact g1); conv => whnf)
                    | fail)
                  refine needm_of (Bool.and_eq_true_iff.2 ⟨rfl, decide_eq_true (by show 0 + (q : Int).toNat * _ + 1 ≤ _; rw [s3, Int.toNat_natCast]; omega)⟩) ?_
                  conv => whnf
                  repeat' (first
                    | ((with_reducible refine regx_of ?_ ?_); (· decide +kernel); conv => whnf)
                    | ((with_reducible refine growx_pre ?_ ?_); (· exact ⟨_, rfl⟩); conv => whnf)
                    | ((with_reducible refine needm_of ?_ ?_); (· first | assumption | exact decide_eq_true (by omega) | exact mkOK_of (by decide) | decide +kernel | (refine decide_eq_true ?_; simp (disch := omega) only [i64w]; omega)); conv => whnf)
                    | ((with_reducible refine condm_pos ?_ ?_); (· assumption); conv => whnf)
                    | ((with_reducible refine condm_neg ?_ ?_); (· assumption); conv => whnf)
                    | ((with_reducible refine forceL_fv (by assumption) ?_); conv => whnf)
                    | ((with_reducible refine forceL_rfv (by assumption) ?_); conv => whnf)
                    | ((with_reducible refine forceNm_of ?_); conv => whnf)
                    | ((with_reducible refine needm_of (fv_lenL (by assumption) (by assumption)) ?_); conv => whnf)
                    | ((with_reducible refine optm_var (fv_strL (by assumption) (by assumption)) (fun s hs => ?_)); conv => whnf)
                    | ((with_reducible refine forceA_of ?_); conv => whnf)
                    | ((with_reducible refine forceL_pl (by assumption) ?_); conv => whnf)
                    | ((with_reducible refine forceL_rpl (by assumption) ?_); conv => whnf)
                    | ((with_reducible apply optm_of); (· first | exact g0 | exact g1); conv => whnf)
                    | fail)
                  refine forceL_var (l' := i64s (L.take (q - 1) ++ ([y] ++ L.drop (q - 1)) ++ J')) (shift_row hls (by omega) hy (by rw [s3, Int.toNat_natCast, Nat.zero_add, Nat.mul_one])) (fun ls2 hls2 => ?_)
                  have hq2 := Pl.i64 hls2
                  conv => whnf
                  repeat' (first
                    | ((with_reducible refine regx_of ?_ ?_); (· decide +kernel); conv => whnf)
                    | ((with_reducible refine growx_pre ?_ ?_); (· exact ⟨_, rfl⟩); conv => whnf)
                    | ((with_reducible refine needm_of ?_ ?_); (· first | assumption | exact decide_eq_true (by omega) | exact mkOK_of (by decide) | decide +kernel | (refine decide_eq_true ?_; simp (disch := omega) only [i64w]; omega)); conv => whnf)
                    | ((with_reducible refine condm_pos ?_ ?_); (· assumption); conv => whnf)
                    | ((with_reducible refine condm_neg ?_ ?_); (· assumption); conv => whnf)
                    | ((with_reducible refine forceL_fv (by assumption) ?_); conv => whnf)
                    | ((with_reducible refine forceL_rfv (by assumption) ?_); conv => whnf)
                    | ((with_reducible refine forceNm_of ?_); conv => whnf)
                    | ((with_reducible refine needm_of (fv_lenL (by assumption) (by assumption)) ?_); conv => whnf)
                    | ((with_reducible refine optm_var (fv_strL (by assumption) (by assumption)) (fun s hs => ?_)); conv => whnf)
                    | ((with_reducible refine forceA_of ?_); conv => whnf)
                    | ((with_reducible refine forceL_pl (by assumption) ?_); conv => whnf)
                    | ((with_reducible refine forceL_rpl (by assumption) ?_); conv => whnf)
                    | ((with_reducible apply optm_of); (· first | exact g0 | exact g1); conv => whnf)
                    | fail)
                  refine ⟨q - 1, by omega, Into.weak [0, 1, 2] _ [.cells cs 82 mk, .cells [.slc 0 0 n n] 79 false, .cells ls2 3 ml'] ⟨q - 1, y, ls2, by omega, by omega, rfl, hls2, rfl, rfl⟩ ⟨rfl, rfl, rfl, rfl, rfl, congrArg (fun z => some (V.a (.int .i64 z))) e3, trivial⟩ ⟨ren_pl hp _ _ _, rfl, ren_pl hq2 _ _ _, trivial⟩ (by simp [nodupb, baseb, Ob.okb, frmOk, V.okb, A.okb, hp.2, hq2.2] <;> decide)⟩
                · have hka : q = a := by have := of_decide_eq_false h; omega
                  subst hka
                  conv => whnf
                  repeat' (first
                    | ((with_reducible refine regx_of ?_ ?_); (· decide +kernel); conv => whnf)
                    | ((with_reducible refine growx_pre ?_ ?_); (· exact ⟨_, rfl⟩); conv => whnf)
                    | ((with_reducible refine needm_of ?_ ?_); (· first | assumption | exact decide_eq_true (by omega) | exact mkOK_of (by decide) | decide +kernel | (refine decide_eq_true ?_; simp (disch := omega) only [i64w]; omega)); conv => whnf)
                    | ((with_reducible refine condm_pos ?_ ?_); (· assumption); conv => whnf)
                    | ((with_reducible refine condm_neg ?_ ?_); (· assumption); conv => whnf)
                    | ((with_reducible refine forceL_fv (by assumption) ?_); conv => whnf)
                    | ((with_reducible refine forceL_rfv (by assumption) ?_); conv => whnf)
                    | ((with_reducible refine forceNm_of ?_); conv => whnf)
                    | ((with_reducible refine needm_of (fv_lenL (by assumption) (by assumption)) ?_); conv => whnf)
                    | ((with_reducible refine optm_var (fv_strL (by assumption) (by assumption)) (fun s hs => ?_)); conv => whnf)
                    | ((with_reducible refine forceA_of ?_); conv => whnf)
                    | ((with_reducible refine forceL_pl (by assumption) ?_); conv => whnf)
                    | ((with_reducible refine forceL_rpl (by assumption) ?_); conv => whnf)
                    | ((with_reducible apply optm_of); (· first | exact g0 | exact g1); conv => whnf)
                    | fail)
                  refine needm_of (Bool.and_eq_true_iff.2 ⟨rfl, decide_eq_true (by show 0 + (q : Int).toNat * _ + 1 ≤ _; rw [s3, Int.toNat_natCast]; omega)⟩) ?_
                  conv => whnf
                  repeat' (first
                    | ((with_reducible refine regx_of ?_ ?_); (· decide +kernel); conv => whnf)
                    | ((with_reducible refine growx_pre ?_ ?_); (· exact ⟨_, rfl⟩); conv => whnf)
                    | ((with_reducible refine needm_of ?_ ?_); (· first | assumption | exact decide_eq_true (by omega) | exact mkOK_of (by decide) | decide +kernel | (refine decide_eq_true ?_; simp (disch := omega) only [i64w]; omega)); conv => whnf)
                    | ((with_reducible refine condm_pos ?_ ?_); (· assumption); conv => whnf)
                    | ((with_reducible refine condm_neg ?_ ?_); (· assumption); conv => whnf)
                    | ((with_reducible refine forceL_fv (by assumption) ?_); conv => whnf)
                    | ((with_reducible refine forceL_rfv (by assumption) ?_); conv => whnf)
                    | ((with_reducible refine forceNm_of ?_); conv => whnf)
                    | ((with_reducible refine needm_of (fv_lenL (by assumption) (by assumption)) ?_); conv => whnf)
                    | ((with_reducible refine optm_var (fv_strL (by assumption) (by assumption)) (fun s hs => ?_)); conv => whnf)
                    | ((with_reducible refine forceA_of ?_); conv => whnf)
                    | ((with_reducible refine forceL_pl (by assumption) ?_); conv => whnf)
                    | ((with_reducible refine forceL_rpl (by assumption) ?_); conv => whnf)
                    | ((with_reducible apply optm_of); (· first | exact g0 | exact g1); conv => whnf)
                    | fail)
                  refine forceL_var (l' := i64s ((L.take q ++ [((m + 1 : Nat) : Int)] ++ L.drop q) ++ J')) (place_row hls (by omega) (by rw [s3, Int.toNat_natCast, Nat.zero_add, Nat.mul_one])) (fun ls2 hls2 => ?_)
                  have hq2 := Pl.i64 hls2
                  have e9 : IntKind.i64.wrap (((m + 1 : Nat) : Int) + 1) = ((m + 1 + 1 : Nat) : Int) := by rw [i64w (by omega) (by omega)]; rfl
                  conv => whnf
                  repeat' (first
                    | ((with_reducible refine regx_of ?_ ?_); (· decide +kernel); conv => whnf)
                    | ((with_reducible refine growx_pre ?_ ?_); (· exact ⟨_, rfl⟩); conv => whnf)
                    | ((with_reducible refine needm_of ?_ ?_); (· first | assumption | exact decide_eq_true (by omega) | exact mkOK_of (by decide) | decide +kernel | (refine decide_eq_true ?_; simp (disch := omega) only [i64w]; omega)); conv => whnf)
                    | ((with_reducible refine condm_pos ?_ ?_); (· assumption); conv => whnf)
                    | ((with_reducible refine condm_neg ?_ ?_); (· assumption); conv => whnf)
                    | ((with_reducible refine forceL_fv (by assumption) ?_); conv => whnf)
                    | ((with_reducible refine forceL_rfv (by assumption) ?_); conv => whnf)
                    | ((with_reducible refine forceNm_of ?_); conv => whnf)
                    | ((with_reducible refine needm_of (fv_lenL (by assumption) (by assumption)) ?_); conv => whnf)
                    | ((with_reducible refine optm_var (fv_strL (by assumption) (by assumption)) (fun s hs => ?_)); conv => whnf)
                    | ((with_reducible refine forceA_of ?_); conv => whnf)
                    | ((with_reducible refine forceL_pl (by assumption) ?_); conv => whnf)
                    | ((with_reducible refine forceL_rpl (by assumption) ?_); conv => whnf)
                    | ((with_reducible apply optm_of); (· first | exact g0 | exact g1); conv => whnf)
                    | fail)
                  refine ⟨n - (m + 1), by omega, Into.weak [0, 1, 2] _ [.cells cs 82 mk, .cells [.slc 0 0 n n] 79 false, .cells ls2 3 ml'] ⟨m + 1, L.take q ++ [((m + 1 : Nat) : Int)] ++ L.drop q, J', ls2, c', ml', by omega, rfl, hS.ins rfl (by omega) hup hlow, hls2, hc', rfl, rfl⟩ ⟨rfl, rfl, rfl, congrArg (fun z => some (V.a (.int .i64 z))) e9, trivial⟩ ⟨ren_pl hp _ _ _, rfl, ren_pl hq2 _ _ _, trivial⟩ (by simp [nodupb, baseb, Ob.okb, frmOk, V.okb, A.okb, hp.2, hq2.2] <;> decide)⟩
            · have hcc := of_decide_eq_false hc
              conv => whnf
              refine needm_of (decide_eq_true (by rw [s3, b3]; exact ⟨by omega, by omega, by omega⟩)) ?_
              intro c' hcap
              conv => whnf
              repeat' (first
                | ((with_reducible refine regx_of ?_ ?_); (· decide +kernel); conv => whnf)
                | ((with_reducible refine growx_pre ?_ ?_); (· exact ⟨_, rfl⟩); conv => whnf)
                | ((with_reducible refine needm_of ?_ ?_); (· first | assumption | exact decide_eq_true (by omega) | exact mkOK_of (by decide) | decide +kernel | (refine decide_eq_true ?_; simp (disch := omega) only [i64w]; omega)); conv => whnf)
                | ((with_reducible refine condm_pos ?_ ?_); (· assumption); conv => whnf)
                | ((with_reducible refine condm_neg ?_ ?_); (· assumption); conv => whnf)
                | ((with_reducible refine forceL_fv (by assumption) ?_); conv => whnf)
                | ((with_reducible refine forceL_rfv (by assumption) ?_); conv => whnf)
                | ((with_reducible refine forceNm_of ?_); conv => whnf)
                | ((with_reducible refine needm_of (fv_lenL (by assumption) (by assumption)) ?_); conv => whnf)
                | ((with_reducible refine optm_var (fv_strL (by assumption) (by assumption)) (fun s hs => ?_)); conv => whnf)
                | ((with_reducible refine forceA_of ?_); conv => whnf)
                | ((with_reducible refine forceL_pl (by assumption) ?_); conv => whnf)
                | ((with_reducible refine forceL_rpl (by assumption) ?_); conv => whnf)
                | ((with_reducible apply optm_of); (· first | exact g0 | exact g1); conv => whnf)
                | fail)
              refine forceL_var (l' := i64s (L ++ [((m + 1 : Nat) : Int)] ++ List.replicate (c' - (m + 1)) 0)) (by rw [s3]; simp only [Nat.mul_one]; exact i64s_new (o := m) hls hLm.symm) (fun ls1 hls1 => ?_)
              have hq1 := Pl.i64 hls1
              obtain ⟨J', hJ'⟩ : ∃ J' : List Int, J' = List.replicate (c' - (m + 1)) 0 := ⟨_, rfl⟩
              rw [← hJ'] at hls1
              have hc' : c' = m + 1 + J'.length := by rw [hJ', List.length_replicate]; omega
              obtain ⟨ml', hml'⟩ : ∃ ml', ml' = false := ⟨_, rfl⟩
              clear hc hcc hJ' hcap
              conv => whnf
              repeat' (first
                | ((with_reducible refine regx_of ?_ ?_); (· decide +kernel); conv => whnf)
                | ((with_reducible refine growx_pre ?_ ?_); (· exact ⟨_, rfl⟩); conv => whnf)
                | ((with_reducible refine needm_of ?_ ?_); (· first | assumption | exact decide_eq_true (by omega) | exact mkOK_of (by decide) | decide +kernel | (refine decide_eq_true ?_; simp (disch := omega) only [i64w]; omega)); conv => whnf)
                | ((with_reducible refine condm_pos ?_ ?_); (· assumption); conv => whnf)
                | ((with_reducible refine condm_neg ?_ ?_); (· assumption); conv => whnf)
                | ((with_reducible refine forceL_fv (by assumption) ?_); conv => whnf)
                | ((with_reducible refine forceL_rfv (by assumption) ?_); conv => whnf)
                | ((with_reducible refine forceNm_of ?_); conv => whnf)
                | ((with_reducible refine needm_of (fv_lenL (by assumption) (by assumption)) ?_); conv => whnf)
                | ((with_reducible refine optm_var (fv_strL (by assumption) (by assumption)) (fun s hs => ?_)); conv => whnf)
                | ((with_reducible refine forceA_of ?_); conv => whnf)
                | ((with_reducible refine forceL_pl (by assumption) ?_); conv => whnf)
                | ((with_reducible refine forceL_rpl (by assumption) ?_); conv => whnf)
                | ((with_reducible apply optm_of); (· first | exact g0 | exact g1); conv => whnf)
                | fail)
              rw [e5]
              conv => whnf
              repeat' (first
                | ((with_reducible refine regx_of ?_ ?_); (· decide +kernel); conv => whnf)
                | ((with_reducible refine growx_pre ?_ ?_); (· exact ⟨_, rfl⟩); conv => whnf)
                | ((with_reducible refine needm_of ?_ ?_); (· first | assumption | exact decide_eq_true (by omega) | exact mkOK_of (by decide) | decide +kernel | (refine decide_eq_true ?_; simp (disch := omega) only [i64w]; omega)); conv => whnf)
                | ((with_reducible refine condm_pos ?_ ?_); (· assumption); conv => whnf)
                | ((with_reducible refine condm_neg ?_ ?_); (· assumption); conv => whnf)
                | ((with_reducible refine forceL_fv (by assumption) ?_); conv => whnf)
                | ((with_reducible refine forceL_rfv (by assumption) ?_); conv => whnf)
                | ((with_reducible refine forceNm_of ?_); conv => whnf)
                | ((with_reducible refine needm_of (fv_lenL (by assumption) (by assumption)) ?_); conv => whnf)
                | ((with_reducible refine optm_var (fv_strL (by assumption) (by assumption)) (fun s hs => ?_)); conv => whnf)
                | ((with_reducible refine forceA_of ?_); conv => whnf)
                | ((with_reducible refine forceL_pl (by assumption) ?_); conv => whnf)
                | ((with_reducible refine forceL_rpl (by assumption) ?_); conv => whnf)
                | ((with_reducible apply optm_of); (· first | exact g0 | exact g1); conv => whnf)
                | fail)
              refine loopx_of (fun q F H => ∃ (k : Nat) (x : Int) (ls : List A), a ≤ k ∧ k ≤ m ∧ q = k ∧ ls = i64s (L.take k ++ ([x] ++ L.drop k) ++ J') ∧ F = [(0, .a (.ptr 1 0)), (1, .a (.flt .f64 now)), (5, .a (.slc 2 0 (m + 1) c')), (6, .a (.int .i64 ((m + 1 : Nat) : Int))), (7, .a (.int .i64 (a : Int))), (8, .a (.int .i64 (k : Int)))] ∧ H = [.cells cs 82 mk, .cells [.slc 0 0 n n] 79 false, .cells ls 3 ml']) m ?_ ?_
              · exact Into.weak [0, 1, 4] _ [.cells cs 82 mk, .cells [.slc 0 0 n n] 79 false, .cells ls1 3 ml'] ⟨m, ((m + 1 : Nat) : Int), ls1, by omega, Nat.le_refl _, rfl, by rw [hls1, List.take_of_length_le (by omega), List.drop_of_length_le (by omega), List.append_nil], rfl, rfl⟩ ⟨rfl, rfl, rfl, rfl, rfl, rfl, trivial⟩ ⟨ren_pl hp _ _ _, rfl, by rw [hml']; exact ren_pl hq1 _ _ _, trivial⟩ (by simp [nodupb, baseb, Ob.okb, frmOk, V.okb, A.okb, hp.2, hq1.2] <;> decide)
              · rintro q F H ⟨k, x, ls, hak, hkm, rfl, hls, rfl, rfl⟩
                have hq := Pl.i64 hls
                have hll : ls.length = m + 1 + J'.length := by rw [hls, i64s_length]; simp only [List.length_append, List.length_take, List.length_drop, List.length_cons, List.length_nil]; omega
                conv => whnf
                repeat' (first
                  | ((with_reducible refine regx_of ?_ ?_); (· decide +kernel); conv => whnf)
                  | ((with_reducible refine growx_pre ?_ ?_); (· exact ⟨_, rfl⟩); conv => whnf)
                  | ((with_reducible refine needm_of ?_ ?_); (· first | assumption | exact decide_eq_true (by omega) | exact mkOK_of (by decide) | decide +kernel | (refine decide_eq_true ?_; simp (disch := omega) only [i64w]; omega)); conv => whnf)
                  | ((with_reducible refine condm_pos ?_ ?_); (· assumption); conv => whnf)
                  | ((with_reducible refine condm_neg ?_ ?_); (· assumption); conv => whnf)
                  | ((with_reducible refine forceL_fv (by assumption) ?_); conv => whnf)
                  | ((with_reducible refine forceL_rfv (by assumption) ?_); conv => whnf)
                  | ((with_reducible refine forceNm_of ?_); conv => whnf)
                  | ((with_reducible refine needm_of (fv_lenL (by assumption) (by assumption)) ?_); conv => whnf)
                  | ((with_reducible refine optm_var (fv_strL (by assumption) (by assumption)) (fun s hs => ?_)); conv => whnf)
                  | ((with_reducible refine forceA_of ?_); conv => whnf)
                  | ((with_reducible refine forceL_pl (by assumption) ?_); conv => whnf)
                  | ((with_reducible refine forceL_rpl (by assumption) ?_); conv => whnf)
                  | ((with_reducible apply optm_of); (· first | exact g0 | exact g1); conv => whnf)
                  | fail)
                refine condm_of (fun h => ?_) (fun h => ?_)
                · have hka : a < q := by have := of_decide_eq_true h; omega
                  have e3 : IntKind.i64.wrap ((q : Int) - 1) = ((q - 1 : Nat) : Int) := by rw [i64w (by omega) (by omega)]; omega
                  obtain ⟨y, hy⟩ : ∃ y, L[q - 1]? = some y := ⟨_, List.getElem?_eq_getElem (by omega)⟩
                  have g0 : ls[0 + ((q - 1 : Nat) : Int).toNat * Try.prog.types[3].size]? = some (.int .i64 y) := by
                    rw [s3, Int.toNat_natCast, Nat.zero_add, Nat.mul_one]
                    refine i64s_get hls ?_
                    rw [List.append_assoc, List.getElem?_append_left (by rw [List.length_take]; omega), List.getElem?_take, if_pos (by omega)]
                    exact hy
                  conv => whnf
                  repeat' (first
                    | ((with_reducible refine regx_of ?_ ?_); (· decide +kernel); conv => whnf)
                    | ((with_reducible refine growx_pre ?_ ?_); (· exact ⟨_, rfl⟩); conv => whnf)
                    | ((with_reducible refine needm_of ?_ ?_); (· first | assumption | exact decide_eq_true (by omega) | exact mkOK_of (by decide) | decide +kernel | (refine decide_eq_true ?_; simp (disch := omega) only [i64w]; omega)); conv => whnf)
                    | ((with_reducible refine condm_pos ?_ ?_); (· assumption); conv => whnf)
                    | ((with_reducible refine condm_neg ?_ ?_); (· assumption); conv => whnf)
                    | ((with_reducible refine forceL_fv (by assumption) ?_); conv => whnf)
                    | ((with_reducible refine forceL_rfv (by assumption) ?_); conv => whnf)
                    | ((with_reducible refine forceNm_of ?_); conv => whnf)
                    | ((with_reducible refine needm_of (fv_lenL (by assumption) (by assumption)) ?_); conv => whnf)
                    | ((with_reducible refine optm_var (fv_strL (by assumption) (by assumption)) (fun s hs => ?_)); conv => whnf)
                    | ((with_reducible refine forceA_of ?_); conv => whnf)
                    | ((with_reducible refine forceL_pl (by assumption) ?_); conv => whnf)
                    | ((with_reducible refine forceL_rpl (by assumption) ?_); conv => whnf)
                    | ((with_reducible apply optm_of); (· first | exact g0 | exact g1); conv => whnf)
                    | fail)
                  rw [e3]
                  conv => whnf
                  repeat' (first
                    | ((with_reducible refine regx_of ?_ ?_); (· decide +kernel); conv => whnf)
                    | ((with_reducible refine growx_pre ?_ ?_); (· exact ⟨_, rfl⟩); conv => whnf)
                    | ((with_reducible refine needm_of ?_ ?_); (· first | assumption | exact decide_eq_true (by omega) | exact mkOK_of (by decide) | decide +kernel | (refine decide_eq_true ?_; simp (disch := omega) only [i64w]; omega)); conv => whnf)
                    | ((with_reducible refine condm_pos ?_ ?_); (· assumption); conv => whnf)
                    | ((with_reducible refine condm_neg ?_ ?_); (· assumption); conv => whnf)
                    | ((with_reducible refine forceL_fv (by assumption) ?_); conv => whnf)
                    | ((with_reducible refine forceL_rfv (by assumption) ?_); conv => whnf)
                    | ((with_reducible refine forceNm_of ?_); conv => whnf)
                    | ((with_reducible refine needm_of (fv_lenL (by assumption) (by assumption)) ?_); conv => whnf)
                    | ((with_reducible refine optm_var (fv_strL (by assumption) (by assumption)) (fun s hs => ?_)); conv => whnf)
                    | ((with_reducible refine forceA_of ?_); conv => whnf)
                    | ((with_reducible refine forceL_pl (by assumption) ?_); conv => whnf)
                    | ((with_reducible refine forceL_rpl (by assumption) ?_); conv => whnf)
                    | ((with_reducible apply optm_of); (· first | exact g0 | exact g1); conv => whnf)
                    | fail)
                  refine needm_of (Bool.and_eq_true_iff.2 ⟨rfl, decide_eq_true (by show 0 + (q : Int).toNat * _ + 1 ≤ _; rw [s3, Int.toNat_natCast]; omega)⟩) ?_
                  conv => whnf
                  repeat' (first
                    | ((with_reducible refine regx_of ?_ ?_); (· decide +kernel); conv => whnf)
                    | ((with_reducible refine growx_pre ?_ ?_); (· exact ⟨_, rfl⟩); conv => whnf)
                    | ((with_reducible refine needm_of ?_ ?_); (· first | assumption | exact decide_eq_true (by omega) | exact mkOK_of (by decide) | decide +kernel | (refine decide_eq_true ?_; simp (disch := omega) only [i64w]; omega)); conv => whnf)
                    | ((with_reducible refine condm_pos ?_ ?_); (· assumption); conv => whnf)
                    | ((with_reducible refine condm_neg ?_ ?_); (· assumption); conv => whnf)
                    | ((with_reducible refine forceL_fv (by assumption) ?_); conv => whnf)
                    | ((with_reducible refine forceL_rfv (by assumption) ?_); conv => whnf)
                    | ((with_reducible refine forceNm_of ?_); conv => whnf)
                    | ((with_reducible refine needm_of (fv_lenL (by assumption) (by assumption)) ?_); conv => whnf)
                    | ((with_reducible refine optm_var (fv_strL (by assumption) (by assumption)) (fun s hs => ?_)); conv => whnf)
                    | ((with_reducible refine forceA_of ?_); conv => whnf)
                    | ((with_reducible refine forceL_pl (by assumption) ?_); conv => whnf)
                    | ((with_reducible refine forceL_rpl (by assumption) ?_); conv => whnf)
                    | ((with_reducible apply optm_of); (· first | exact g0 | exact g1); conv => whnf)
                    | fail)
                  refine forceL_var (l' := i64s (L.take (q - 1) ++ ([y] ++ L.drop (q - 1)) ++ J')) (shift_row hls (by omega) hy (by rw [s3, Int.toNat_natCast, Nat.zero_add, Nat.mul_one])) (fun ls2 hls2 => ?_)
                  have hq2 := Pl.i64 hls2
                  conv => whnf
                  repeat' (first
                    | ((with_reducible refine regx_of ?_ ?_); (· decide +kernel); conv => whnf)
                    | ((with_reducible refine growx_pre ?_ ?_); (· exact ⟨_, rfl⟩); conv => whnf)
                    | ((with_reducible refine needm_of ?_ ?_); (· first | assumption | exact decide_eq_true (by omega) | exact mkOK_of (by decide) | decide +kernel | (refine decide_eq_true ?_; simp (disch := omega) only [i64w]; omega)); conv => whnf)
                    | ((with_reducible refine condm_pos ?_ ?_); (· assumption); conv => whnf)
                    | ((with_reducible refine condm_neg ?_ ?_); (· assumption); conv => whnf)
                    | ((with_reducible refine forceL_fv (by assumption) ?_); conv => whnf)
                    | ((with_reducible refine forceL_rfv (by assumption) ?_); conv => whnf)
                    | ((with_reducible refine forceNm_of ?_); conv => whnf)
                    | ((with_reducible refine needm_of (fv_lenL (by assumption) (by assumption)) ?_); conv => whnf)
                    | ((with_reducible refine optm_var (fv_strL (by assumption) (by assumption)) (fun s hs => ?_)); conv => whnf)
                    | ((with_reducible refine forceA_of ?_); conv => whnf)
                    | ((with_reducible refine forceL_pl (by assumption) ?_); conv => whnf)
                    | ((with_reducible refine forceL_rpl (by assumption) ?_); conv => whnf)
                    | ((with_reducible apply optm_of); (· first | exact g0 | exact g1); conv => whnf)
                    | fail)
                  refine ⟨q - 1, by omega, Into.weak [0, 1, 2] _ [.cells cs 82 mk, .cells [.slc 0 0 n n] 79 false, .cells ls2 3 ml'] ⟨q - 1, y, ls2, by omega, by omega, rfl, hls2, rfl, rfl⟩ ⟨rfl, rfl, rfl, rfl, rfl, congrArg (fun z => some (V.a (.int .i64 z))) e3, trivial⟩ ⟨ren_pl hp _ _ _, rfl, ren_pl hq2 _ _ _, trivial⟩ (by simp [nodupb, baseb, Ob.okb, frmOk, V.okb, A.okb, hp.2, hq2.2] <;> decide)⟩
                · have hka : q = a := by have := of_decide_eq_false h; omega
                  subst hka
                  conv => whnf
                  repeat' (first
                    | ((with_reducible refine regx_of ?_ ?_); (· decide +kernel); conv => whnf)
                    | ((with_reducible refine growx_pre ?_ ?_); (· exact ⟨_, rfl⟩); conv => whnf)
                    | ((with_reducible refine needm_of ?_ ?_); (· first | assumption | exact decide_eq_true (by omega) | exact mkOK_of (by decide) | decide +kernel | (refine decide_eq_true ?_; simp (disch := omega) only [i64w]; omega)); conv => whnf)
                    | ((with_reducible refine condm_pos ?_ ?_); (· assumption); conv => whnf)
                    | ((with_reducible refine condm_neg ?_ ?_); (· assumption); conv => whnf)
                    | ((with_reducible refine forceL_fv (by assumption) ?_); conv => whnf)
                    | ((with_reducible refine forceL_rfv (by assumption) ?_); conv => whnf)
                    | ((with_reducible refine forceNm_of ?_); conv => whnf)
                    | ((with_reducible refine needm_of (fv_lenL (by assumption) (by assumption)) ?_); conv => whnf)
                    | ((with_reducible refine optm_var (fv_strL (by assumption) (by assumption)) (fun s hs => ?_)); conv => whnf)
                    | ((with_reducible refine forceA_of ?_); conv => whnf)
                    | ((with_reducible refine forceL_pl (by assumption) ?_); conv => whnf)
                    | ((with_reducible refine forceL_rpl (by assumption) ?_); conv => whnf)
                    | ((with_reducible apply optm_of); (· first | exact g0 | exact g1); conv => whnf)
                    | fail)
                  refine needm_of (Bool.and_eq_true_iff.2 ⟨rfl, decide_eq_true (by show 0 + (q : Int).toNat * _ + 1 ≤ _; rw [s3, Int.toNat_natCast]; omega)⟩) ?_
                  conv => whnf
                  repeat' (first
                    | ((with_reducible refine regx_of ?_ ?_); (· decide +kernel); conv => whnf)
                    | ((with_reducible refine growx_pre ?_ ?_); (· exact ⟨_, rfl⟩); conv => whnf)
                    | ((with_reducible refine needm_of ?_ ?_); (· first | assumption | exact decide_eq_true (by omega) | exact mkOK_of (by decide) | decide +kernel | (refine decide_eq_true ?_; simp (disch := omega) only [i64w]; omega)); conv => whnf)
                    | ((with_reducible refine condm_pos ?_ ?_); (· assumption); conv => whnf)
                    | ((with_reducible refine condm_neg ?_ ?_); (· assumption); conv => whnf)
                    | ((with_reducible refine forceL_fv (by assumption) ?_); conv => whnf)
                    | ((with_reducible refine forceL_rfv (by assumption) ?_); conv => whnf)
                    | ((with_reducible refine forceNm_of ?_); conv => whnf)
                    | ((with_reducible refine needm_of (fv_lenL (by assumption) (by assumption)) ?_); conv => whnf)
                    | ((with_reducible refine optm_var (fv_strL (by assumption) (by assumption)) (fun s hs => ?_)); conv => whnf)
                    | ((with_reducible refine forceA_of ?_); conv => whnf)
                    | ((with_reducible refine forceL_pl (by assumption) ?_); conv => whnf)
                    | ((with_reducible refine forceL_rpl (by assumption) ?_); conv => whnf)
                    | ((with_reducible apply optm_of); (· first | exact g0 | exact g1); conv => whnf)
                    | fail)
                  refine forceL_var (l' := i64s ((L.take q ++ [((m + 1 : Nat) : Int)] ++ L.drop q) ++ J')) (place_row hls (by omega) (by rw [s3, Int.toNat_natCast, Nat.zero_add, Nat.mul_one])) (fun ls2 hls2 => ?_)
                  have hq2 := Pl.i64 hls2
                  have e9 : IntKind.i64.wrap (((m + 1 : Nat) : Int) + 1) = ((m + 1 + 1 : Nat) : Int) := by rw [i64w (by omega) (by omega)]; rfl
                  conv => whnf
                  repeat' (first
                    | ((with_reducible refine regx_of ?_ ?_); (· decide +kernel); conv => whnf)
                    | ((with_reducible refine growx_pre ?_ ?_); (· exact ⟨_, rfl⟩); conv => whnf)
                    | ((with_reducible refine needm_of ?_ ?_); (· first | assumption | exact decide_eq_true (by omega) | exact mkOK_of (by decide) | decide +kernel | (refine decide_eq_true ?_; simp (disch := omega) only [i64w]; omega)); conv => whnf)
                    | ((with_reducible refine condm_pos ?_ ?_); (· assumption); conv => whnf)
                    | ((with_reducible refine condm_neg ?_ ?_); (· assumption); conv => whnf)
                    | ((with_reducible refine forceL_fv (by assumption) ?_); conv => whnf)
                    | ((with_reducible refine forceL_rfv (by assumption) ?_); conv => whnf)
                    | ((with_reducible refine forceNm_of ?_); conv => whnf)
                    | ((with_reducible refine needm_of (fv_lenL (by assumption) (by assumption)) ?_); conv => whnf)
                    | ((with_reducible refine optm_var (fv_strL (by assumption) (by assumption)) (fun s hs => ?_)); conv => whnf)
                    | ((with_reducible refine forceA_of ?_); conv => whnf)
                    | ((with_reducible refine forceL_pl (by assumption) ?_); conv => whnf)
                    | ((with_reducible refine forceL_rpl (by assumption) ?_); conv => whnf)
                    | ((with_reducible apply optm_of); (· first | exact g0 | exact g1); conv => whnf)
                    | fail)
                  refine ⟨n - (m + 1), by omega, Into.weak [0, 1, 2] _ [.cells cs 82 mk, .cells [.slc 0 0 n n] 79 false, .cells ls2 3 ml'] ⟨m + 1, L.take q ++ [((m + 1 : Nat) : Int)] ++ L.drop q, J', ls2, c', ml', by omega, rfl, hS.ins rfl (by omega) hup hlow, hls2, hc', rfl, rfl⟩ ⟨rfl, rfl, rfl, congrArg (fun z => some (V.a (.int .i64 z))) e9, trivial⟩ ⟨ren_pl hp _ _ _, rfl, ren_pl hq2 _ _ _, trivial⟩ (by simp [nodupb, baseb, Ob.okb, frmOk, V.okb, A.okb, hp.2, hq2.2] <;> decide)⟩
    · have hmn : m = n := by have := of_decide_eq_false h; omega
      subst hmn
      conv => whnf
      repeat' (first
        | ((with_reducible refine regx_of ?_ ?_); (· decide +kernel); conv => whnf)
        | ((with_reducible refine growx_pre ?_ ?_); (· exact ⟨_, rfl⟩); conv => whnf)
        | ((with_reducible refine needm_of ?_ ?_); (· first | assumption | exact decide_eq_true (by omega) | exact mkOK_of (by decide) | decide +kernel | (refine decide_eq_true ?_; simp (disch := omega) only [i64w]; omega)); conv => whnf)
        | ((with_reducible refine condm_pos ?_ ?_); (· assumption); conv => whnf)
        | ((with_reducible refine condm_neg ?_ ?_); (· assumption); conv => whnf)
        | ((with_reducible refine forceL_fv (by assumption) ?_); conv => whnf)
        | ((with_reducible refine forceL_rfv (by assumption) ?_); conv => whnf)
        | ((with_reducible refine forceNm_of ?_); conv => whnf)
        | ((with_reducible refine needm_of (fv_lenL (by assumption) (by assumption)) ?_); conv => whnf)
        | ((with_reducible refine optm_var (fv_strL (by assumption) (by assumption)) (fun s hs => ?_)); conv => whnf)
        | ((with_reducible refine forceA_of ?_); conv => whnf)
        | ((with_reducible refine forceL_pl (by assumption) ?_); conv => whnf)
        | ((with_reducible refine forceL_rpl (by assumption) ?_); conv => whnf)
        | ((with_reducible apply optm_of); (· first | exact g0 | exact g1); conv => whnf)
        | fail)
      exact keepOf (v₀ := .a (.slc 2 0 m c)) [.cells cs 82 mk, .cells [.slc 0 0 m m] 79 false, .cells ls 3 ml] [0, 1, 2] rfl ⟨ren_pl hp _ _ _, rfl, ren_pl hq _ _ _, trivial⟩ (by simp [nodupb, baseb, Ob.okb, frmOk, V.okb, A.okb, hp.2, hq.2] <;> decide) (hK L J ls c ml hS hls hc)
end
end Go.Proofs.Ytmnimmhpclhmfaa.PC
