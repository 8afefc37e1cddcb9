import Derived.Test.YtimddbgnaeeggaaDoorRS
namespace Go.Proofs.YtimddbgnaeeggaaDoor.KD
open Go.Eng
set_option maxRecDepth 100000
section
variable {ro : Addr → A → Prop}
set_option maxHeartbeats 2000000 in
theorem apart2 (T : List UInt8) (hT : T.length ≤ 39) {K : V → Hp → Prop} (hK0 : ¬ IsVa (2 :: T) → K (.g [.int .u8 0, .bool false, .nils, .nils, .nils]) [])
    (hK1 : ∀ u fs rs Y X n1 c1 n c mk1 mk, Can u → 2 :: T = (Va.real u).bytes → fs = f64s ([u] ++ Y) → n1 = 1 → rs = i32s ([] ++ X) → n = 0 → K (.g [.int .u8 2, .bool false, .slc 0 0 n1 c1, .nils, .slc 1 0 n c]) [.cells fs 23 mk1, .cells rs 21 mk]) :
    Go.Eng.Fn Tryd.prog ro 32 [.a (.str (bs (2 :: T)))] [] K := by
  have key : ∀ v a e, rf (2 :: T) 1 0 = (v, a, e) → Goal K 2 (2 :: T) false [v] [] e := by
    intro v a e hv
    have hP : [2] ++ onB 2 false ++ flF [v] ++ flat [] = 2 :: be 8 (fbits v) := by rw [flat_nil]; simp [flF, onB]
    refine ⟨fun hn => hK0 (fun h => hn ?_), (fun _ r hr => by cases hr), fun fs rs Y X n1 c1 n c mk1 mk h hfs hn1 hrs hn => ?_⟩
    · obtain ⟨u, hu, hTu⟩ := isVa_2 h
      have hr : rf (2 :: T) 1 0 = (u, 1 + 8, 0) := rf_of (by rw [hTu]; simp [be_length]) (by rw [hTu]; show u = hiN ((be 8 u).take 8); rw [List.take_of_length_le (by rw [be_length]; exact Nat.le_refl _), hiN_be, Nat.mod_eq_of_lt hu.1]) hu.2
      rw [hr] at hv
      injection hv with h1 hv; injection hv with h2 h3
      subst h1
      refine ⟨h3.symm, rfl, ?_⟩
      rw [hP, can_fb hu, hTu]
    · obtain ⟨he, _, hq⟩ := h
      obtain ⟨h3, h4, h5⟩ := rf_conv hv he
      rw [hP, can_fb h3] at hq
      exact hK1 v fs rs Y X n1 c1 n c mk1 mk h3 hq.symm hfs hn1 hrs hn
  have hv64 : ∀ v a e, rf (2 :: T) 1 0 = (v, a, e) → v < 18446744073709551616 := fun v a e hv => by
    rcases rf_cases hv with ⟨_, _, h⟩ | ⟨_, _, _, _, _, h, _⟩
    · rw [h]; decide
    · exact h
  clear hK0 hK1
  obtain ⟨hb, hhb⟩ : ∃ b : UInt8, b = 2 := ⟨_, rfl⟩
  have n1 : ((hb.toNat : Int) == 1) = false := by rw [hhb]; rfl
  have n2 : ((hb.toNat : Int) == 2) = true := by rw [hhb]; rfl
  rw [← hhb] at key hv64 ⊢
  obtain ⟨L, hL⟩ : ∃ L, L = hb :: T := ⟨_, rfl⟩
  rw [← hL] at key hv64 ⊢
  have hLl : L.length = T.length + 1 := by rw [hL]; rfl
  have hsz := bs_size L
  have g0 : byteAt (bs L) 0 = some hb := by rw [hL]; exact byteAt_bs (i := 0) rfl
  have c0 : ((bs L).data.toList == ([] : List UInt8)) = false := by rw [hL]; rfl
  have c1 : decide (((bs L).size : Int) > 40) = false := decide_eq_false (by omega)
  refine Fn.weak ?_
  refine Fn.of_code (cutAt [18, 26] (gOf [])) Tryd.func32 rfl (Nat.le_of_ble_eq_true rfl) ?_
  obtain ⟨s, hs⟩ : ∃ s, s = bs L := ⟨_, rfl⟩
  rw [← hs] at hsz g0 c0 c1 ⊢
  have g1 := True.intro
  conv => whnf
  repeat' ((first | (with_reducible refine y'b ‹_› ?_) | ((with_reducible apply y'o); (· first | exact g0 | exact g1)) | fail) <;> (conv => whnf))
  refine And.intro ?_ ?_ <;> (conv => whnf)
  all_goals
    repeat' ((first | ((with_reducible refine y'g ?_ ?_); (· exact ⟨_, rfl⟩)) | (rw [hs]; refine Fn.frame [2] (by rfl) (by exact ⟨rfl, trivial⟩) (by rfl) (rrfloat L 1 0 (by omega) (by omega) (fun v a e hv => ?_)); have hG := key v a e hv; have hv6 := hv64 v a e hv; rw [← hs]) | fail) <;> (conv => whnf))
  all_goals
    intro cap hcap
    conv => whnf
    skip
  all_goals
    refine y'f (l' := f64s (List.replicate (cap - 1) 0)) (by rw [s23]; unfold f64s; simp [repl]) (fun ys hys => ?_)
    have hfs : (A.flt .f64 v :: ys) = f64s ([v] ++ List.replicate (cap - 1) 0) := by rw [hys]; unfold f64s; simp
    have hfp := f64s_pl hfs
    have hyp := f64s_pl hys
    conv => whnf
    repeat' ((first | (with_reducible refine y'5 ‹_› ?_) | fail) <;> (conv => whnf))
    refine cutx_of (TJ K hb L s) ?_ ?_
    · refine Into.ghost 5 [(0, .a (.str s)), (2, .a (.ptr 0 0)), (3, .a (.ptr 1 0)), (4, .a (.ptr 2 0))] [.cells [.int .u8 0, .bool false, .nils, .nils, .nils] 57 false, .cells [.int .u8 (hb.toNat : Int), .bool false, .slc 4 0 1 cap, .nils, .slc 5 0 0 0] 57 false, .cells [.str s, .int .i64 (a : Int), .int .i64 e] 102 false, .cells [A.flt .f64 v] 23 false, .cells (A.flt .f64 v :: ys) 23 false, .cells [] 21 false] rfl ⟨rfl, rfl, rfl, rfl, trivial⟩ ⟨rfl, rfl, rfl, rfl, ung_pl hfp.1 _ _ _, rfl, trivial⟩ (by simp [Ob.okb, frmOk, V.okb, A.okb, hyp.2] <;> decide) ?_
      exact Into.weak [0, 1, 2, 4, 5] _ [.cells [.int .u8 0, .bool false, .nils, .nils, .nils] 57 false, .cells [.int .u8 (hb.toNat : Int), .bool false, .slc 3 0 1 cap, .nils, .slc 4 0 0 0] 57 false, .cells [.str s, .int .i64 (a : Int), .int .i64 e] 102 false, .cells (A.flt .f64 v :: ys) 23 false, .cells [] 21 false] ⟨false, [v], List.replicate (cap - 1) 0, [], [], A.flt .f64 v :: ys, [], 1, cap, 0, 0, false, false, a, e, hG, hfs, rfl, by decide, by simpa using hv6, i32s_nil.symm, rfl, by decide, rfl, rfl⟩ ⟨rfl, rfl, rfl, rfl, trivial⟩ ⟨rfl, rfl, rfl, ren_pl hfp _ _ _, rfl, trivial⟩ (by simp [nodupb, baseb, Ob.okb, frmOk, V.okb, A.okb, hyp.2] <;> decide)
    · skip
      rintro F H ⟨on, vs, Y, Ls, X, fs, rs, n1, c1, n, c, mk1, mk, a, e, ⟨hK0', hR, hK1'⟩, hfs, hn1, hn19, hV, hrs, hn, hn9, rfl, rfl⟩
      have hp := i32s_pl hrs
      have hfp := f64s_pl hfs
      by_cases he : e = 0
      · have c2 : (e != 0) = false := by simp [he]
        conv => whnf
        repeat' ((first | (with_reducible refine y'b ‹_› ?_) | fail) <;> (conv => whnf))
        refine Fn.frame [3, 4] (by rfl) (by exact ⟨ren_pl hfp _ _ _, ren_pl hp _ _ _, trivial⟩) (by simp [nodupb, V.okb, A.okb, Ob.okb, hfp.2, hp.2] <;> decide) (rightX (hb.toNat : Int) on Ls X fs rs n1 c1 n c mk1 mk hfp hrs hn hn9 ?_)
        cases hg : rgR (-1) Ls with
        | false =>
          have hk := hK0' (fun h => by rw [h.2.1] at hg; cases hg)
          conv => whnf
          repeat' ((first | (with_reducible refine y'b ‹_› ?_) | (with_reducible first | refine y'5 ‹_› ?_ | refine y'6 ‹_› ?_) | fail) <;> (conv => whnf))
          exact keepOf (v₀ := .g [.int .u8 0, .bool false, .nils, .nils, .nils]) [] [] rfl trivial rfl hk
        | true =>
          conv => whnf
          repeat' ((first | (with_reducible refine y'b ‹_› ?_) | (with_reducible refine y'6 ‹_› ?_) | fail) <;> (conv => whnf))
          refine Fn.frame [3, 4] (by rfl) (by exact ⟨ren_pl hfp _ _ _, ren_pl hp _ _ _, trivial⟩) (by simp [nodupb, V.okb, A.okb, Ob.okb, hfp.2, hp.2] <;> decide) (toldX hb on vs Y Ls X fs rs n1 c1 n c mk1 mk hfs hn1 hn19 hV hrs hn hn9 (hR hg) ?_)
          by_cases hq : [hb] ++ onB hb on ++ flF vs ++ flat Ls = L
          · have hk := hK1' fs rs Y X n1 c1 n c mk1 mk ⟨he, hg, hq⟩ hfs hn1 hrs hn
            have hs3 : (!((bs ([hb] ++ onB hb on ++ flF vs ++ flat Ls)).data.toList == s.data.toList)) = false := by rw [hq, hs]; simp
            generalize bs ([hb] ++ onB hb on ++ flF vs ++ flat Ls) = told at *
            conv => whnf
            repeat' ((first | (with_reducible refine y'b ‹_› ?_) | (with_reducible first | refine y'5 ‹_› ?_ | refine y'6 ‹_› ?_) | fail) <;> (conv => whnf))
            exact keepOf (v₀ := .g [.int .u8 (hb.toNat : Int), .bool on, .slc 0 0 n1 c1, .nils, .slc 1 0 n c]) [.cells fs 23 mk1, .cells rs 21 mk] [3, 4] rfl ⟨ren_pl hfp _ _ _, ren_pl hp _ _ _, trivial⟩ (by simp [nodupb, baseb, Ob.okb, frmOk, V.okb, A.okb, hp.2, hfp.2] <;> decide) hk
          · have hk := hK0' (fun h => hq h.2.2)
            have hs3 : (!((bs ([hb] ++ onB hb on ++ flF vs ++ flat Ls)).data.toList == s.data.toList)) = true := by rw [hs, beqL, decide_eq_false hq]; rfl
            generalize bs ([hb] ++ onB hb on ++ flF vs ++ flat Ls) = told at *
            conv => whnf
            repeat' ((first | (with_reducible refine y'b ‹_› ?_) | (with_reducible first | refine y'5 ‹_› ?_ | refine y'6 ‹_› ?_) | fail) <;> (conv => whnf))
            exact keepOf (v₀ := .g [.int .u8 0, .bool false, .nils, .nils, .nils]) [] [] rfl trivial rfl hk
      · have c2 : (e != 0) = true := by simp [he]
        have hk := hK0' (fun h => he h.1)
        conv => whnf
        repeat' ((first | (with_reducible refine y'b ‹_› ?_) | (with_reducible refine y'5 ‹_› ?_) | fail) <;> (conv => whnf))
        exact keepOf (v₀ := .g [.int .u8 0, .bool false, .nils, .nils, .nils]) [] [] rfl trivial rfl hk
set_option maxHeartbeats 4000000 in
theorem apart5 (T : List UInt8) (hT : T.length ≤ 39) {K : V → Hp → Prop} (hK0 : ¬ IsVa (5 :: T) → K (.g [.int .u8 0, .bool false, .nils, .nils, .nils]) [])
    (hK1 : ∀ u w fs rs Y X n1 c1 n c mk1 mk, Can u → Can w → 5 :: T = (Va.corner u w).bytes → fs = f64s ([u, w] ++ Y) → n1 = 2 → rs = i32s ([] ++ X) → n = 0 → K (.g [.int .u8 5, .bool false, .slc 0 0 n1 c1, .nils, .slc 1 0 n c]) [.cells fs 23 mk1, .cells rs 21 mk]) :
    Go.Eng.Fn Tryd.prog ro 32 [.a (.str (bs (5 :: T)))] [] K := by
  have key : ∀ v a1 e1, rf (5 :: T) 1 0 = (v, a1, e1) → ∀ v' a e, rf (5 :: T) a1 e1 = (v', a, e) → Goal K 5 (5 :: T) false [v, v'] [] e := by
    intro v a1 e1 hv v' a e hv'
    have hP : [5] ++ onB 5 false ++ flF [v, v'] ++ flat [] = 5 :: (be 8 (fbits v) ++ be 8 (fbits v')) := by rw [flat_nil]; simp [flF, onB]
    refine ⟨fun hn => hK0 (fun h => hn ?_), (fun _ r hr => by cases hr), fun fs rs Y X n1 c1 n c mk1 mk h hfs hn1 hrs hn => ?_⟩
    · obtain ⟨u, w, hu, hw, hTu⟩ := isVa_5 h
      have e8 : ∀ x, (be 8 x).length = 8 := fun x => be_length 8 x
      have hr : rf (5 :: T) 1 0 = (u, 1 + 8, 0) := rf_of (by rw [hTu]; simp [be_length]) (by rw [hTu]; show u = hiN ((be 8 u ++ be 8 w).take 8); rw [List.take_left' (e8 u), hiN_be, Nat.mod_eq_of_lt hu.1]) hu.2
      rw [hr] at hv
      injection hv with h1 hv; injection hv with h2 h3
      subst h1 h2 h3
      have hr' : rf (5 :: T) (1 + 8) 0 = (w, 1 + 8 + 8, 0) := rf_of (by rw [hTu]; simp [be_length]) (by rw [hTu]; show w = hiN (((be 8 u ++ be 8 w).drop 8).take 8); rw [List.drop_left' (e8 u), List.take_of_length_le (by rw [e8]; exact Nat.le_refl _), hiN_be, Nat.mod_eq_of_lt hw.1]) hw.2
      rw [hr'] at hv'
      injection hv' with h1 hv'; injection hv' with h2 h3
      subst h1
      refine ⟨h3.symm, rfl, ?_⟩
      rw [hP, can_fb hu, can_fb hw, hTu]
    · obtain ⟨he, _, hq⟩ := h
      have he1 : e1 = 0 := by
        rcases rf_cases hv' with ⟨hh, _⟩ | ⟨hh, _⟩
        · exact absurd he hh
        · exact hh
      subst he1
      obtain ⟨h3, h4, h5⟩ := rf_conv hv rfl
      obtain ⟨h6, h7, h8⟩ := rf_conv hv' he
      rw [hP, can_fb h3, can_fb h6] at hq
      exact hK1 v v' fs rs Y X n1 c1 n c mk1 mk h3 h6 hq.symm hfs hn1 hrs hn
  have hv64 : ∀ b v a e, rf (5 :: T) b 0 = (v, a, e) → v < 18446744073709551616 := fun b v a e hv => by
    rcases rf_cases hv with ⟨_, _, h⟩ | ⟨_, _, _, _, _, h, _⟩
    · rw [h]; decide
    · exact h
  have hv65 : ∀ b v a e e0, rf (5 :: T) b e0 = (v, a, e) → v < 18446744073709551616 := fun b v a e e0 hv => by
    rcases rf_cases hv with ⟨_, _, h⟩ | ⟨_, _, _, _, _, h, _⟩
    · rw [h]; decide
    · exact h
  have ha9 : ∀ v a e, rf (5 :: T) 1 0 = (v, a, e) → a ≤ (5 :: T).length := fun v a e hv => by
    rcases rf_cases hv with ⟨_, h, _⟩ | ⟨_, _, h, h', _⟩
    · rw [h]; simp
    · rw [h]; exact h'
  clear hK0 hK1
  obtain ⟨hb, hhb⟩ : ∃ b : UInt8, b = 5 := ⟨_, rfl⟩
  have n1 : ((hb.toNat : Int) == 1) = false := by rw [hhb]; rfl
  have n2 : ((hb.toNat : Int) == 2) = false := by rw [hhb]; rfl
  have n5 : ((hb.toNat : Int) == 5) = true := by rw [hhb]; rfl
  rw [← hhb] at key hv64 hv65 ha9 ⊢
  obtain ⟨L, hL⟩ : ∃ L, L = hb :: T := ⟨_, rfl⟩
  rw [← hL] at key hv64 hv65 ha9 ⊢
  have hLl : L.length = T.length + 1 := by rw [hL]; rfl
  have hsz := bs_size L
  have g0 : byteAt (bs L) 0 = some hb := by rw [hL]; exact byteAt_bs (i := 0) rfl
  have c0 : ((bs L).data.toList == ([] : List UInt8)) = false := by rw [hL]; rfl
  have c1 : decide (((bs L).size : Int) > 40) = false := decide_eq_false (by omega)
  refine Fn.weak ?_
  refine Fn.of_code (cutAt [18, 26] (gOf [])) Tryd.func32 rfl (Nat.le_of_ble_eq_true rfl) ?_
  obtain ⟨s, hs⟩ : ∃ s, s = bs L := ⟨_, rfl⟩
  rw [← hs] at hsz g0 c0 c1 ⊢
  have g1 := True.intro
  conv => whnf
  repeat' ((first | (with_reducible refine y'b ‹_› ?_) | ((with_reducible apply y'o); (· first | exact g0 | exact g1)) | fail) <;> (conv => whnf))
  refine And.intro ?_ ?_ <;> (conv => whnf)
  all_goals
    repeat' ((first | ((with_reducible refine y'g ?_ ?_); (· exact ⟨_, rfl⟩)) | (with_reducible refine And.intro ?_ ?_) | (rw [hs]; refine Fn.frame [2] (by rfl) (by exact ⟨rfl, trivial⟩) (by rfl) (rrfloat L 1 0 (by omega) (by omega) (fun v a1 e1 hv => ?_)); have key2 := key v a1 e1 hv; have hva := hv64 1 v a1 e1 hv; have ha1 := ha9 v a1 e1 hv; rw [← hs]) | (rw [hs]; refine Fn.frame [2] (by rfl) (by exact ⟨rfl, trivial⟩) (by rfl) (rrfloat L a1 e1 ha1 (by omega) (fun v' a e hv' => ?_)); have hG := key2 v' a e hv'; have hv6 : v < 18446744073709551616 ∧ v' < 18446744073709551616 := ⟨hva, hv65 _ v' a e _ hv'⟩; rw [← hs]) | fail) <;> (conv => whnf))
  all_goals
    intro cap hcap
    conv => whnf
    skip
  all_goals
    refine y'f (l' := f64s (List.replicate (cap - 2) 0)) (by rw [s23]; unfold f64s; simp [repl]) (fun ys hys => ?_)
    have hfs : (A.flt .f64 v :: A.flt .f64 v' :: ys) = f64s ([v, v'] ++ List.replicate (cap - 2) 0) := by rw [hys]; unfold f64s; simp
    have hfp := f64s_pl hfs
    have hyp := f64s_pl hys
    conv => whnf
    repeat' ((first | (with_reducible refine y'5 ‹_› ?_) | fail) <;> (conv => whnf))
    refine cutx_of (TJ K hb L s) ?_ ?_
    · refine Into.ghost 5 [(0, .a (.str s)), (2, .a (.ptr 0 0)), (3, .a (.ptr 1 0)), (4, .a (.ptr 2 0))] [.cells [.int .u8 0, .bool false, .nils, .nils, .nils] 57 false, .cells [.int .u8 (hb.toNat : Int), .bool false, .slc 4 0 2 cap, .nils, .slc 5 0 0 0] 57 false, .cells [.str s, .int .i64 (a : Int), .int .i64 e] 102 false, .cells [A.flt .f64 v, A.flt .f64 v'] 23 false, .cells (A.flt .f64 v :: A.flt .f64 v' :: ys) 23 false, .cells [] 21 false] rfl ⟨rfl, rfl, rfl, rfl, trivial⟩ ⟨rfl, rfl, rfl, rfl, ung_pl hfp.1 _ _ _, rfl, trivial⟩ (by simp [Ob.okb, frmOk, V.okb, A.okb, hyp.2] <;> decide) ?_
      exact Into.weak [0, 1, 2, 4, 5] _ [.cells [.int .u8 0, .bool false, .nils, .nils, .nils] 57 false, .cells [.int .u8 (hb.toNat : Int), .bool false, .slc 3 0 2 cap, .nils, .slc 4 0 0 0] 57 false, .cells [.str s, .int .i64 (a : Int), .int .i64 e] 102 false, .cells (A.flt .f64 v :: A.flt .f64 v' :: ys) 23 false, .cells [] 21 false] ⟨false, [v, v'], List.replicate (cap - 2) 0, [], [], A.flt .f64 v :: A.flt .f64 v' :: ys, [], 2, cap, 0, 0, false, false, a, e, hG, hfs, rfl, by decide, by simpa using hv6, i32s_nil.symm, rfl, by decide, rfl, rfl⟩ ⟨rfl, rfl, rfl, rfl, trivial⟩ ⟨rfl, rfl, rfl, ren_pl hfp _ _ _, rfl, trivial⟩ (by simp [nodupb, baseb, Ob.okb, frmOk, V.okb, A.okb, hyp.2] <;> decide)
    · skip
      rintro F H ⟨on, vs, Y, Ls, X, fs, rs, n1, c1, n, c, mk1, mk, a, e, ⟨hK0', hR, hK1'⟩, hfs, hn1, hn19, hV, hrs, hn, hn9, rfl, rfl⟩
      have hp := i32s_pl hrs
      have hfp := f64s_pl hfs
      by_cases he : e = 0
      · have c2 : (e != 0) = false := by simp [he]
        conv => whnf
        repeat' ((first | (with_reducible refine y'b ‹_› ?_) | fail) <;> (conv => whnf))
        refine Fn.frame [3, 4] (by rfl) (by exact ⟨ren_pl hfp _ _ _, ren_pl hp _ _ _, trivial⟩) (by simp [nodupb, V.okb, A.okb, Ob.okb, hfp.2, hp.2] <;> decide) (rightX (hb.toNat : Int) on Ls X fs rs n1 c1 n c mk1 mk hfp hrs hn hn9 ?_)
        cases hg : rgR (-1) Ls with
        | false =>
          have hk := hK0' (fun h => by rw [h.2.1] at hg; cases hg)
          conv => whnf
          repeat' ((first | (with_reducible refine y'b ‹_› ?_) | (with_reducible first | refine y'5 ‹_› ?_ | refine y'6 ‹_› ?_) | fail) <;> (conv => whnf))
          exact keepOf (v₀ := .g [.int .u8 0, .bool false, .nils, .nils, .nils]) [] [] rfl trivial rfl hk
        | true =>
          conv => whnf
          repeat' ((first | (with_reducible refine y'b ‹_› ?_) | (with_reducible refine y'6 ‹_› ?_) | fail) <;> (conv => whnf))
          refine Fn.frame [3, 4] (by rfl) (by exact ⟨ren_pl hfp _ _ _, ren_pl hp _ _ _, trivial⟩) (by simp [nodupb, V.okb, A.okb, Ob.okb, hfp.2, hp.2] <;> decide) (toldX hb on vs Y Ls X fs rs n1 c1 n c mk1 mk hfs hn1 hn19 hV hrs hn hn9 (hR hg) ?_)
          by_cases hq : [hb] ++ onB hb on ++ flF vs ++ flat Ls = L
          · have hk := hK1' fs rs Y X n1 c1 n c mk1 mk ⟨he, hg, hq⟩ hfs hn1 hrs hn
            have hs3 : (!((bs ([hb] ++ onB hb on ++ flF vs ++ flat Ls)).data.toList == s.data.toList)) = false := by rw [hq, hs]; simp
            generalize bs ([hb] ++ onB hb on ++ flF vs ++ flat Ls) = told at *
            conv => whnf
            repeat' ((first | (with_reducible refine y'b ‹_› ?_) | (with_reducible first | refine y'5 ‹_› ?_ | refine y'6 ‹_› ?_) | fail) <;> (conv => whnf))
            exact keepOf (v₀ := .g [.int .u8 (hb.toNat : Int), .bool on, .slc 0 0 n1 c1, .nils, .slc 1 0 n c]) [.cells fs 23 mk1, .cells rs 21 mk] [3, 4] rfl ⟨ren_pl hfp _ _ _, ren_pl hp _ _ _, trivial⟩ (by simp [nodupb, baseb, Ob.okb, frmOk, V.okb, A.okb, hp.2, hfp.2] <;> decide) hk
          · have hk := hK0' (fun h => hq h.2.2)
            have hs3 : (!((bs ([hb] ++ onB hb on ++ flF vs ++ flat Ls)).data.toList == s.data.toList)) = true := by rw [hs, beqL, decide_eq_false hq]; rfl
            generalize bs ([hb] ++ onB hb on ++ flF vs ++ flat Ls) = told at *
            conv => whnf
            repeat' ((first | (with_reducible refine y'b ‹_› ?_) | (with_reducible first | refine y'5 ‹_› ?_ | refine y'6 ‹_› ?_) | fail) <;> (conv => whnf))
            exact keepOf (v₀ := .g [.int .u8 0, .bool false, .nils, .nils, .nils]) [] [] rfl trivial rfl hk
      · have c2 : (e != 0) = true := by simp [he]
        have hk := hK0' (fun h => he h.1)
        conv => whnf
        repeat' ((first | (with_reducible refine y'b ‹_› ?_) | (with_reducible refine y'5 ‹_› ?_) | fail) <;> (conv => whnf))
        exact keepOf (v₀ := .g [.int .u8 0, .bool false, .nils, .nils, .nils]) [] [] rfl trivial rfl hk
end
end Go.Proofs.YtimddbgnaeeggaaDoor.KD
