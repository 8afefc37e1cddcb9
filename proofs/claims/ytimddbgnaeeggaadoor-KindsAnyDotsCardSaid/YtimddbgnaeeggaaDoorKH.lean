import Derived.Test.YtimddbgnaeeggaaDoorKG
namespace Go.Proofs.YtimddbgnaeeggaaDoor.KD
open Go.Eng
set_option maxRecDepth 100000
section
variable {ro : Addr → A → Prop}
set_option maxHeartbeats 2000000 in
theorem both_tally (T U : List UInt8) (hT : T.length ≤ 39) (hU : U.length ≤ 39) (c d : List Nat) (ht : tallyP T = (c, true)) (hu : tallyP U = (d, true)) {K : V → Hp → Prop}
    (hK : K (.a (.str (bs (toldP (mxC c d))))) []) :
    Go.Eng.Fn Tryd.prog ro 47 [.a (.str (bs (3 :: T))), .a (.str (bs (3 :: U)))] [] K := by
  have hx2 : (bs (3 :: U)).extract (Int.toNat 1) (bs (3 :: U)).size = bs U := by
    rw [bs_extract, bs_size]
    congr 1
    show List.take ((3 :: U).length - 1) (List.drop 1 (3 :: U)) = U
    rw [List.drop_succ_cons, List.drop_zero, List.length_cons, Nat.add_sub_cancel, List.take_of_length_le (Nat.le_refl _)]
  have hsz2 : (bs (3 :: U)).size = U.length + 1 := by rw [bs_size, List.length_cons]
  have c3 : decide ((0 : Int) ≤ 1 ∧ (1 : Int) ≤ ((bs (3 :: U)).size : Int)) = true := decide_eq_true (by omega)
  have hsz := bs_size (3 :: T)
  have g0 : byteAt (bs (3 :: T)) 0 = some 3 := byteAt_bs (i := 0) rfl
  have hx : (bs (3 :: T)).extract (Int.toNat 1) (bs (3 :: T)).size = bs T := by
    rw [bs_extract, hsz]
    congr 1
    show List.take ((3 :: T).length - 1) (List.drop 1 (3 :: T)) = T
    rw [List.drop_succ_cons, List.drop_zero, List.length_cons, Nat.add_sub_cancel, List.take_of_length_le (Nat.le_refl _)]
  have c0 : ((bs (3 :: T)).data.toList == ([] : List UInt8)) = false := rfl
  rw [List.length_cons] at hsz
  have c1 : decide (((bs (3 :: T)).size : Int) > 40) = false := decide_eq_false (by omega)
  have c2 : decide ((0 : Int) ≤ 1 ∧ (1 : Int) ≤ ((bs (3 :: T)).size : Int)) = true := decide_eq_true (by omega)
  generalize bs (3 :: T) = s at *
  generalize bs (3 :: U) = s2 at *
  refine Fn.weak ?_
  refine Fn.of_code h47 Tryd.func47 rfl (Nat.le_of_ble_eq_true rfl) ?_
  conv => whnf
  repeat' ((first | ((with_reducible refine y'r ?_ ?_); (· decide +kernel)) | ((with_reducible refine y'g ?_ ?_); (· exact ⟨_, rfl⟩)) | (with_reducible first | refine y'b ‹_› ?_ | refine y'n ‹_› ?_ | refine y'1 ‹_› ?_ | refine y'2 ‹_› ?_ | refine y'3 ?_ | refine y'4 ?_) | ((with_reducible refine y'n ?_ ?_); (· first | assumption | exact decide_eq_true (by omega) | decide +kernel)) | ((with_reducible refine y'b ?_ ?_); (· assumption)) | (with_reducible first | refine y'n (y'7 ‹_› ‹_›) ?_ | refine y'v (y'8 ‹_› ‹_›) (fun s hs => ?_) | refine y'5 ‹_› ?_ | refine y'6 ‹_› ?_) | ((with_reducible apply y'o); (· first | exact g0 | exact g1 | exact g2)) | (with_reducible first | refine y'n (st12 ‹_›) ?_ | refine y'n (len12 ‹_›) ?_ | refine y't (store12 ‹_›) ?_ | refine y't (whole12 ‹_›) ?_) | ((with_reducible refine y'p ?_ ?_); (· rfl)) | ((with_reducible refine y'q ?_ ?_); (· rfl)) | fail) <;> (conv => whnf))
  rw [hx]
  refine Fn.frame [] (by rfl) (by exact trivial) (by rfl) (tally1 T (by omega) (fun c2 ok rs ht2 hrs hc h16 => ?_))
  rw [ht] at ht2
  obtain ⟨rfl, rfl⟩ : c = c2 ∧ true = ok := by injection ht2 with h1 h2; exact ⟨h1, h2⟩
  have hp := u16s_pl hrs
  have hrl : rs.length = 12 := by rw [u16s_len hrs, hc]
  conv => whnf
  repeat' ((first | ((with_reducible refine y'r ?_ ?_); (· decide +kernel)) | ((with_reducible refine y'g ?_ ?_); (· exact ⟨_, rfl⟩)) | (with_reducible first | refine y'b ‹_› ?_ | refine y'n ‹_› ?_ | refine y'1 ‹_› ?_ | refine y'2 ‹_› ?_ | refine y'3 ?_ | refine y'4 ?_) | ((with_reducible refine y'n ?_ ?_); (· first | assumption | exact decide_eq_true (by omega) | decide +kernel)) | ((with_reducible refine y'b ?_ ?_); (· assumption)) | (with_reducible first | refine y'n (y'7 ‹_› ‹_›) ?_ | refine y'v (y'8 ‹_› ‹_›) (fun s hs => ?_) | refine y'5 ‹_› ?_ | refine y'6 ‹_› ?_) | ((with_reducible apply y'o); (· first | exact g0 | exact g1 | exact g2)) | (with_reducible first | refine y'n (st12 ‹_›) ?_ | refine y'n (len12 ‹_›) ?_ | refine y't (store12 ‹_›) ?_ | refine y't (whole12 ‹_›) ?_) | ((with_reducible refine y'p ?_ ?_); (· rfl)) | ((with_reducible refine y'q ?_ ?_); (· rfl)) | fail) <;> (conv => whnf))
  rw [hx2]
  refine Fn.frame [] (by rfl) (by exact trivial) (by rfl) (tally1 U (by omega) (fun c2 ok rs2 ht2 hrs2 hd h162 => ?_))
  rw [hu] at ht2
  obtain ⟨rfl, rfl⟩ : d = c2 ∧ true = ok := by injection ht2 with h1 h2; exact ⟨h1, h2⟩
  have hp2 := u16s_pl hrs2
  have hrl2 : rs2.length = 12 := by rw [u16s_len hrs2, hd]
  conv => whnf
  repeat' ((first | ((with_reducible refine y'r ?_ ?_); (· decide +kernel)) | ((with_reducible refine y'g ?_ ?_); (· exact ⟨_, rfl⟩)) | (with_reducible first | refine y'b ‹_› ?_ | refine y'n ‹_› ?_ | refine y'1 ‹_› ?_ | refine y'2 ‹_› ?_ | refine y'3 ?_ | refine y'4 ?_) | ((with_reducible refine y'n ?_ ?_); (· first | assumption | exact decide_eq_true (by omega) | decide +kernel)) | ((with_reducible refine y'b ?_ ?_); (· assumption)) | (with_reducible first | refine y'n (y'7 ‹_› ‹_›) ?_ | refine y'v (y'8 ‹_› ‹_›) (fun s hs => ?_) | refine y'5 ‹_› ?_ | refine y'6 ‹_› ?_) | ((with_reducible apply y'o); (· first | exact g0 | exact g1 | exact g2)) | (with_reducible first | refine y'n (st12 ‹_›) ?_ | refine y'n (len12 ‹_›) ?_ | refine y't (store12 ‹_›) ?_ | refine y't (whole12 ‹_›) ?_) | ((with_reducible refine y'p ?_ ?_); (· rfl)) | ((with_reducible refine y'q ?_ ?_); (· rfl)) | fail) <;> (conv => whnf))
  refine loopx_of (fun m F H => ∃ (i : Nat) (e : List Nat) (rs : List A), i ≤ 6 ∧ m = 6 - i ∧ rs = u16s e ∧ e.length = 12 ∧ (∀ n ∈ e, n < 65536) ∧ (∀ k, e[k]? = if k < i * 2 then (mxC c d)[k]? else c[k]?) ∧ F = [(13, .a (.ptr 0 0)), (15, .a (.ptr 1 0)), (89, .a (.int .i64 i))] ∧ H = [.cells rs 93 false, .cells rs2 93 false]) 6 ?_ ?_
  · exact Into.weak [0, 1] [(13, .a (.ptr 0 0)), (15, .a (.ptr 1 0)), (89, .a (.int .i64 (0 : Nat)))] [.cells rs 93 false, .cells rs2 93 false] ⟨0, c, rs, by omega, rfl, hrs, hc, h16, fun k => by rw [if_neg (by omega)], rfl, rfl⟩ ⟨rfl, rfl, rfl, trivial⟩ ⟨ren_pl hp _ _ _, ren_pl hp2 _ _ _, trivial⟩ (by simp [nodupb, baseb, Ob.okb, frmOk, V.okb, A.okb, hp.2, hp2.2] <;> decide)
  · clear hrs hp hrl rs
    rintro m F H ⟨i, e, rs, hi, rfl, hrs, he, he16, hel, rfl, rfl⟩
    have hp := u16s_pl hrs
    have hrl : rs.length = 12 := by rw [u16s_len hrs, he]
    have hw : IntKind.i64.wrap (↑i + 1) = ((i + 1 : Nat) : Int) := by rw [i64w (by omega) (by omega)]; rfl
    conv => whnf
    repeat' ((first | ((with_reducible refine y'r ?_ ?_); (· decide +kernel)) | ((with_reducible refine y'g ?_ ?_); (· exact ⟨_, rfl⟩)) | (with_reducible first | refine y'b ‹_› ?_ | refine y'n ‹_› ?_ | refine y'1 ‹_› ?_ | refine y'2 ‹_› ?_ | refine y'3 ?_ | refine y'4 ?_) | ((with_reducible refine y'n ?_ ?_); (· first | assumption | exact decide_eq_true (by omega) | decide +kernel)) | ((with_reducible refine y'b ?_ ?_); (· assumption)) | (with_reducible first | refine y'n (y'7 ‹_› ‹_›) ?_ | refine y'v (y'8 ‹_› ‹_›) (fun s hs => ?_) | refine y'5 ‹_› ?_ | refine y'6 ‹_› ?_) | ((with_reducible apply y'o); (· first | exact g0 | exact g1 | exact g2)) | (with_reducible first | refine y'n (st12 ‹_›) ?_ | refine y'n (len12 ‹_›) ?_ | refine y't (store12 ‹_›) ?_ | refine y't (whole12 ‹_›) ?_) | ((with_reducible refine y'p ?_ ?_); (· rfl)) | ((with_reducible refine y'q ?_ ?_); (· rfl)) | fail) <;> (conv => whnf))
    refine y'c (fun h => ?_) (fun h => ?_)
    · have hin : i < 6 := by have := of_decide_eq_true h; omega
      obtain ⟨u, hu0⟩ : ∃ u, c[i * 2]? = some u := ⟨_, List.getElem?_eq_getElem (by omega)⟩
      obtain ⟨u', hu1⟩ : ∃ u, c[i * 2 + 1]? = some u := ⟨_, List.getElem?_eq_getElem (by omega)⟩
      obtain ⟨v, hv0⟩ : ∃ u, d[i * 2]? = some u := ⟨_, List.getElem?_eq_getElem (by omega)⟩
      obtain ⟨v', hv1⟩ : ∃ u, d[i * 2 + 1]? = some u := ⟨_, List.getElem?_eq_getElem (by omega)⟩
      have he0 : e[i * 2]? = some u := by rw [hel, if_neg (by omega), hu0]
      have he1 : e[i * 2 + 1]? = some u' := by rw [hel, if_neg (by omega), hu1]
      have g0 : rs[0 + (i : Int).toNat * Tryd.prog.types[91].size + Int.toNat 0 * Tryd.prog.types[90].size]? = some (.int .u16 u) := by rw [s91, s90, Int.toNat_natCast, Nat.zero_add]; exact u16s_get hrs he0
      have g1 : rs2[0 + (i : Int).toNat * Tryd.prog.types[91].size + Int.toNat 0 * Tryd.prog.types[90].size]? = some (.int .u16 v) := by rw [s91, s90, Int.toNat_natCast, Nat.zero_add]; exact u16s_get hrs2 hv0
      conv => whnf
      repeat' ((first | ((with_reducible refine y'r ?_ ?_); (· decide +kernel)) | ((with_reducible refine y'g ?_ ?_); (· exact ⟨_, rfl⟩)) | (with_reducible first | refine y'b ‹_› ?_ | refine y'n ‹_› ?_ | refine y'1 ‹_› ?_ | refine y'2 ‹_› ?_ | refine y'3 ?_ | refine y'4 ?_) | ((with_reducible refine y'n ?_ ?_); (· first | assumption | exact decide_eq_true (by omega) | decide +kernel)) | ((with_reducible refine y'b ?_ ?_); (· assumption)) | (with_reducible first | refine y'n (y'7 ‹_› ‹_›) ?_ | refine y'v (y'8 ‹_› ‹_›) (fun s hs => ?_) | refine y'5 ‹_› ?_ | refine y'6 ‹_› ?_) | ((with_reducible apply y'o); (· first | exact g0 | exact g1 | exact g2)) | (with_reducible first | refine y'n (st12 ‹_›) ?_ | refine y'n (len12 ‹_›) ?_ | refine y't (store12 ‹_›) ?_ | refine y't (whole12 ‹_›) ?_) | ((with_reducible refine y'p ?_ ?_); (· rfl)) | ((with_reducible refine y'q ?_ ?_); (· rfl)) | fail) <;> (conv => whnf))
      rw [imax u v]
      refine y'n (set_ok (r := i) (w := 0) hrl (by omega) (by omega)) ?_
      conv => whnf
      refine y'f (set16 (r := i) (x := max u v) (w := 0) hrs he (by omega) (by omega)) (fun rs3 hrs3 => ?_)
      have hu16 := h16 u (List.mem_of_getElem? hu0)
      have hu16' := h16 u' (List.mem_of_getElem? hu1)
      have hv16 := h162 v (List.mem_of_getElem? hv0)
      have hv16' := h162 v' (List.mem_of_getElem? hv1)
      have hp3 := u16s_pl hrs3
      have hrl3 : rs3.length = 12 := by rw [u16s_len hrs3, List.length_set, he]
      have he2 : (e.set (i * 2 + 0) (max u v))[i * 2 + 1]? = some u' := by rw [List.getElem?_set_ne (by omega), he1]
      clear g0 g1
      have g0 : rs3[0 + (i : Int).toNat * Tryd.prog.types[91].size + Int.toNat 1 * Tryd.prog.types[90].size]? = some (.int .u16 u') := by rw [s91, s90, Int.toNat_natCast, Nat.zero_add]; exact u16s_get hrs3 he2
      have g1 : rs2[0 + (i : Int).toNat * Tryd.prog.types[91].size + Int.toNat 1 * Tryd.prog.types[90].size]? = some (.int .u16 v') := by rw [s91, s90, Int.toNat_natCast, Nat.zero_add]; exact u16s_get hrs2 hv1
      conv => whnf
      repeat' ((first | ((with_reducible refine y'r ?_ ?_); (· decide +kernel)) | ((with_reducible refine y'g ?_ ?_); (· exact ⟨_, rfl⟩)) | (with_reducible first | refine y'b ‹_› ?_ | refine y'n ‹_› ?_ | refine y'1 ‹_› ?_ | refine y'2 ‹_› ?_ | refine y'3 ?_ | refine y'4 ?_) | ((with_reducible refine y'n ?_ ?_); (· first | assumption | exact decide_eq_true (by omega) | decide +kernel)) | ((with_reducible refine y'b ?_ ?_); (· assumption)) | (with_reducible first | refine y'n (y'7 ‹_› ‹_›) ?_ | refine y'v (y'8 ‹_› ‹_›) (fun s hs => ?_) | refine y'5 ‹_› ?_ | refine y'6 ‹_› ?_) | ((with_reducible apply y'o); (· first | exact g0 | exact g1 | exact g2)) | (with_reducible first | refine y'n (st12 ‹_›) ?_ | refine y'n (len12 ‹_›) ?_ | refine y't (store12 ‹_›) ?_ | refine y't (whole12 ‹_›) ?_) | ((with_reducible refine y'p ?_ ?_); (· rfl)) | ((with_reducible refine y'q ?_ ?_); (· rfl)) | fail) <;> (conv => whnf))
      rw [imax u' v']
      refine y'n (set_ok (r := i) (w := 1) hrl3 (by omega) (by omega)) ?_
      conv => whnf
      refine y'f (set16 (r := i) (x := max u' v') (w := 1) hrs3 (by rw [List.length_set]; exact he) (by omega) (by omega)) (fun rs4 hrs4 => ?_)
      have hp4 := u16s_pl hrs4
      conv => whnf
      repeat' ((first | ((with_reducible refine y'r ?_ ?_); (· decide +kernel)) | ((with_reducible refine y'g ?_ ?_); (· exact ⟨_, rfl⟩)) | (with_reducible first | refine y'b ‹_› ?_ | refine y'n ‹_› ?_ | refine y'1 ‹_› ?_ | refine y'2 ‹_› ?_ | refine y'3 ?_ | refine y'4 ?_) | ((with_reducible refine y'n ?_ ?_); (· first | assumption | exact decide_eq_true (by omega) | decide +kernel)) | ((with_reducible refine y'b ?_ ?_); (· assumption)) | (with_reducible first | refine y'n (y'7 ‹_› ‹_›) ?_ | refine y'v (y'8 ‹_› ‹_›) (fun s hs => ?_) | refine y'5 ‹_› ?_ | refine y'6 ‹_› ?_) | ((with_reducible apply y'o); (· first | exact g0 | exact g1 | exact g2)) | (with_reducible first | refine y'n (st12 ‹_›) ?_ | refine y'n (len12 ‹_›) ?_ | refine y't (store12 ‹_›) ?_ | refine y't (whole12 ‹_›) ?_) | ((with_reducible refine y'p ?_ ?_); (· rfl)) | ((with_reducible refine y'q ?_ ?_); (· rfl)) | fail) <;> (conv => whnf))
      exact ⟨6 - (i + 1), by omega, Into.weak [0, 1] [(13, .a (.ptr 0 0)), (15, .a (.ptr 1 0)), (89, .a (.int .i64 ((i + 1 : Nat) : Int)))] [.cells rs4 93 false, .cells rs2 93 false] ⟨i + 1, _, rs4, by omega, rfl, hrs4, by rw [List.length_set, List.length_set]; exact he, set_lt (set_lt he16 (by omega)) (by omega), mx_step hu0 hu1 hv0 hv1 he hel, rfl, rfl⟩ ⟨rfl, rfl, congrArg (fun z => some (V.a (.int .i64 z))) hw, trivial⟩ ⟨ren_pl hp4 _ _ _, ren_pl hp2 _ _ _, trivial⟩ (by simp [nodupb, baseb, Ob.okb, frmOk, V.okb, A.okb, hp4.2, hp2.2] <;> decide)⟩
    · have hin : i = 6 := by have := of_decide_eq_false h; omega
      subst hin
      have hee : e = mxC c d := by
        apply List.ext_getElem?
        intro k
        rw [hel]
        by_cases hk : k < 6 * 2
        · rw [if_pos hk]
        · rw [if_neg hk, List.getElem?_eq_none (by omega), List.getElem?_eq_none (by rw [mxC_len hc hd]; omega)]
      conv => whnf
      repeat' ((first | ((with_reducible refine y'r ?_ ?_); (· decide +kernel)) | ((with_reducible refine y'g ?_ ?_); (· exact ⟨_, rfl⟩)) | (with_reducible first | refine y'b ‹_› ?_ | refine y'n ‹_› ?_ | refine y'1 ‹_› ?_ | refine y'2 ‹_› ?_ | refine y'3 ?_ | refine y'4 ?_) | ((with_reducible refine y'n ?_ ?_); (· first | assumption | exact decide_eq_true (by omega) | decide +kernel)) | ((with_reducible refine y'b ?_ ?_); (· assumption)) | (with_reducible first | refine y'n (y'7 ‹_› ‹_›) ?_ | refine y'v (y'8 ‹_› ‹_›) (fun s hs => ?_) | refine y'5 ‹_› ?_ | refine y'6 ‹_› ?_) | ((with_reducible apply y'o); (· first | exact g0 | exact g1 | exact g2)) | (with_reducible first | refine y'n (st12 ‹_›) ?_ | refine y'n (len12 ‹_›) ?_ | refine y't (store12 ‹_›) ?_ | refine y't (whole12 ‹_›) ?_) | ((with_reducible refine y'p ?_ ?_); (· rfl)) | ((with_reducible refine y'q ?_ ?_); (· rfl)) | fail) <;> (conv => whnf))
      refine Fn.frame [0] (by rfl) (by exact ⟨ren_pl hp _ _ _, trivial⟩) (by simp [nodupb, V.okb, A.okb, Ob.okb, hp.2]) (told1 e rs false hrs he he16 ?_)
      rw [hee]
      conv => whnf
      repeat' ((first | ((with_reducible refine y'r ?_ ?_); (· decide +kernel)) | ((with_reducible refine y'g ?_ ?_); (· exact ⟨_, rfl⟩)) | (with_reducible first | refine y'b ‹_› ?_ | refine y'n ‹_› ?_ | refine y'1 ‹_› ?_ | refine y'2 ‹_› ?_ | refine y'3 ?_ | refine y'4 ?_) | ((with_reducible refine y'n ?_ ?_); (· first | assumption | exact decide_eq_true (by omega) | decide +kernel)) | ((with_reducible refine y'b ?_ ?_); (· assumption)) | (with_reducible first | refine y'n (y'7 ‹_› ‹_›) ?_ | refine y'v (y'8 ‹_› ‹_›) (fun s hs => ?_) | refine y'5 ‹_› ?_ | refine y'6 ‹_› ?_) | ((with_reducible apply y'o); (· first | exact g0 | exact g1 | exact g2)) | (with_reducible first | refine y'n (st12 ‹_›) ?_ | refine y'n (len12 ‹_›) ?_ | refine y't (store12 ‹_›) ?_ | refine y't (whole12 ‹_›) ?_) | ((with_reducible refine y'p ?_ ?_); (· rfl)) | ((with_reducible refine y'q ?_ ?_); (· rfl)) | fail) <;> (conv => whnf))
      exact keepOf (v₀ := .a (.str (bs (toldP (mxC c d))))) [] [] rfl trivial rfl hK
end
end Go.Proofs.YtimddbgnaeeggaaDoor.KD
