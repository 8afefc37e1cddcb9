import Derived.Test.YtimddbgnaeeggaaDoorKW
namespace Go.Proofs.YtimddbgnaeeggaaDoor.KD
open Go.Eng
set_option maxRecDepth 100000
theorem s23 : Tryd.prog.types[23].size = 1 := rfl
section
variable {ro : Addr → A → Prop}
set_option maxHeartbeats 1000000 in
theorem floats (kb : UInt8) (xs : List Nat) (rs : List A) (n : Nat) (mr : Bool) (hrs : rs = f64s xs) (hn : n = xs.length) (hn2 : n ≤ 1000) (hx64 : ∀ x ∈ xs, x < 18446744073709551616) {K : V → Hp → Prop}
    (hK : K (.a (.str (bs ([kb] ++ fbytes xs)))) [.cells rs 23 mr]) :
    Go.Eng.Fn Tryd.prog ro 45 [.a (.int .u8 (kb.toNat : Int)), .a (.slc 0 0 n n)] [.cells rs 23 mr] K := by
  have hp := f64s_pl hrs
  refine Fn.weak ?_
  refine Fn.of 1 (gOf []) rfl Tryd.func45 rfl (Nat.le_of_ble_eq_true rfl) ?_
  conv => whnf
  repeat' ((first | ((with_reducible refine y'r ?_ ?_); (· decide +kernel)) | ((with_reducible refine y'g ?_ ?_); (· exact ⟨_, rfl⟩)) | (with_reducible first | refine y'b ‹_› ?_ | refine y'n ‹_› ?_ | refine y'1 ‹_› ?_ | refine y'2 ‹_› ?_ | refine y'3 ?_ | refine y'4 ?_) | ((with_reducible refine y'n ?_ ?_); (· first | assumption | exact decide_eq_true (by omega) | decide +kernel)) | ((with_reducible refine y'b ?_ ?_); (· assumption)) | (with_reducible first | refine y'n (y'7 ‹_› ‹_›) ?_ | refine y'v (y'8 ‹_› ‹_›) (fun s hs => ?_) | refine y'5 ‹_› ?_ | refine y'6 ‹_› ?_) | ((with_reducible apply y'o); (· first | exact g0 | exact g1 | exact g2)) | fail) <;> (conv => whnf))
  refine Fn.frame [] (by rfl) (by exact trivial) (by rfl) (newWriter ?_)
  conv => whnf
  repeat' ((first | ((with_reducible refine y'r ?_ ?_); (· decide +kernel)) | ((with_reducible refine y'g ?_ ?_); (· exact ⟨_, rfl⟩)) | (with_reducible first | refine y'b ‹_› ?_ | refine y'n ‹_› ?_ | refine y'1 ‹_› ?_ | refine y'2 ‹_› ?_ | refine y'3 ?_ | refine y'4 ?_) | ((with_reducible refine y'n ?_ ?_); (· first | assumption | exact decide_eq_true (by omega) | decide +kernel)) | ((with_reducible refine y'b ?_ ?_); (· assumption)) | (with_reducible first | refine y'n (y'7 ‹_› ‹_›) ?_ | refine y'v (y'8 ‹_› ‹_›) (fun s hs => ?_) | refine y'5 ‹_› ?_ | refine y'6 ‹_› ?_) | ((with_reducible apply y'o); (· first | exact g0 | exact g1 | exact g2)) | fail) <;> (conv => whnf))
  refine Fn.frame [1] (by rfl) (by exact ⟨rfl, trivial⟩) (by rfl) (wbyte0 kb (fun cs x cap hcs hcap => ?_))
  conv => whnf
  repeat' ((first | ((with_reducible refine y'r ?_ ?_); (· decide +kernel)) | ((with_reducible refine y'g ?_ ?_); (· exact ⟨_, rfl⟩)) | (with_reducible first | refine y'b ‹_› ?_ | refine y'n ‹_› ?_ | refine y'1 ‹_› ?_ | refine y'2 ‹_› ?_ | refine y'3 ?_ | refine y'4 ?_) | ((with_reducible refine y'n ?_ ?_); (· first | assumption | exact decide_eq_true (by omega) | decide +kernel)) | ((with_reducible refine y'b ?_ ?_); (· assumption)) | (with_reducible first | refine y'n (y'7 ‹_› ‹_›) ?_ | refine y'v (y'8 ‹_› ‹_›) (fun s hs => ?_) | refine y'5 ‹_› ?_ | refine y'6 ‹_› ?_) | ((with_reducible apply y'o); (· first | exact g0 | exact g1 | exact g2)) | fail) <;> (conv => whnf))
  refine loopx_of (fun m F H => ∃ (i : Nat) (cs : List A) (x : List UInt8) (len cap : Nat) (mk : Bool), i ≤ n ∧ m = n - i ∧ cs = u8s (([kb] ++ fbytes (xs.take i)) ++ x) ∧ len = ([kb] ++ fbytes (xs.take i)).length ∧ cap = len + x.length ∧ F = [(5, .a (.ptr 1 0)), (12, .a (.slc 0 0 n n)), (13, .a (.int .i64 n)), (14, .a (.int .i64 i))] ∧ H = [.cells rs 23 mr, .cells [.slc 2 0 len cap] 146 false, .cells cs 5 mk]) n ?_ ?_
  · exact Into.weak [0, 1, 2] [(5, .a (.ptr 1 0)), (12, .a (.slc 0 0 n n)), (13, .a (.int .i64 n)), (14, .a (.int .i64 (0 : Nat)))] [.cells rs 23 mr, .cells [.slc 2 0 1 cap] 146 false, .cells cs 5 false] ⟨0, cs, x, 1, cap, false, by omega, rfl, by rw [List.take_zero, fbytes_nil, List.append_nil]; exact hcs, by rw [List.take_zero, fbytes_nil]; rfl, hcap, rfl, rfl⟩ ⟨rfl, rfl, rfl, rfl, trivial⟩ ⟨ren_pl hp _ _ _, rfl, ren_fv hcs _ _ _, trivial⟩ (by simp [nodupb, baseb, Ob.okb, frmOk, V.okb, A.okb, hp.2, all_fv hcs] <;> decide)
  · clear hcs hcap cs x cap
    rintro m F H ⟨i, cs, x, len, cap, mk, hi, rfl, hcs, hl, hc, rfl, rfl⟩
    have htl : (xs.take i).length = i := by rw [List.length_take]; omega
    conv => whnf
    repeat' ((first | ((with_reducible refine y'r ?_ ?_); (· decide +kernel)) | ((with_reducible refine y'g ?_ ?_); (· exact ⟨_, rfl⟩)) | (with_reducible first | refine y'b ‹_› ?_ | refine y'n ‹_› ?_ | refine y'1 ‹_› ?_ | refine y'2 ‹_› ?_ | refine y'3 ?_ | refine y'4 ?_) | ((with_reducible refine y'n ?_ ?_); (· first | assumption | exact decide_eq_true (by omega) | decide +kernel)) | ((with_reducible refine y'b ?_ ?_); (· assumption)) | (with_reducible first | refine y'n (y'7 ‹_› ‹_›) ?_ | refine y'v (y'8 ‹_› ‹_›) (fun s hs => ?_) | refine y'5 ‹_› ?_ | refine y'6 ‹_› ?_) | ((with_reducible apply y'o); (· first | exact g0 | exact g1 | exact g2)) | fail) <;> (conv => whnf))
    refine y'c (fun h => ?_) (fun h => ?_)
    · have hin : i < n := by have := of_decide_eq_true h; omega
      obtain ⟨v, hv⟩ : ∃ v, xs[i]? = some v := ⟨_, List.getElem?_eq_getElem (by omega)⟩
      have hv64 := hx64 v (List.mem_of_getElem? hv)
      have g0 : rs[0 + (i : Int).toNat * Tryd.prog.types[23].size]? = some (.flt .f64 v) := by rw [s23, Int.toNat_natCast, Nat.zero_add, Nat.mul_one]; exact f64s_get hrs hv
      have hts : xs.take (i + 1) = xs.take i ++ [v] := by rw [List.take_add_one, hv]; rfl
      have hw : IntKind.i64.wrap (↑i + 1) = ((i + 1 : Nat) : Int) := by rw [i64w (by omega) (by omega)]; rfl
      conv => whnf
      repeat' ((first | ((with_reducible refine y'r ?_ ?_); (· decide +kernel)) | ((with_reducible refine y'g ?_ ?_); (· exact ⟨_, rfl⟩)) | (with_reducible first | refine y'b ‹_› ?_ | refine y'n ‹_› ?_ | refine y'1 ‹_› ?_ | refine y'2 ‹_› ?_ | refine y'3 ?_ | refine y'4 ?_) | ((with_reducible refine y'n ?_ ?_); (· first | assumption | exact decide_eq_true (by omega) | decide +kernel)) | ((with_reducible refine y'b ?_ ?_); (· assumption)) | (with_reducible first | refine y'n (y'7 ‹_› ‹_›) ?_ | refine y'v (y'8 ‹_› ‹_›) (fun s hs => ?_) | refine y'5 ‹_› ?_ | refine y'6 ‹_› ?_) | ((with_reducible apply y'o); (· first | exact g0 | exact g1 | exact g2)) | fail) <;> (conv => whnf))
      refine Fn.frame [1, 2] (by rfl) (by exact ⟨rfl, ren_fv hcs _ _ _, trivial⟩) (by simp [nodupb, V.okb, A.okb, Ob.okb, all_fv hcs] <;> decide) (wfloat v hv64 ([kb] ++ fbytes (xs.take i)) x cs len cap mk hcs hl hc (by rw [List.length_append, fbytes_length, htl, List.length_singleton]; omega) (fun H hW => ?_))
      rw [List.append_assoc, ← fbytes_snoc, ← hts] at hW
      rcases hW with ⟨cs2, x2, len2, cap2, mk2, rfl, hcs2, hl2, hc2⟩ | ⟨cs2, os, x2, M, len2, cap2, mk2, mo, rfl, hcs2, hos, hl2, hc2⟩
      ·
        conv => whnf
        repeat' ((first | ((with_reducible refine y'r ?_ ?_); (· decide +kernel)) | ((with_reducible refine y'g ?_ ?_); (· exact ⟨_, rfl⟩)) | (with_reducible first | refine y'b ‹_› ?_ | refine y'n ‹_› ?_ | refine y'1 ‹_› ?_ | refine y'2 ‹_› ?_ | refine y'3 ?_ | refine y'4 ?_) | ((with_reducible refine y'n ?_ ?_); (· first | assumption | exact decide_eq_true (by omega) | decide +kernel)) | ((with_reducible refine y'b ?_ ?_); (· assumption)) | (with_reducible first | refine y'n (y'7 ‹_› ‹_›) ?_ | refine y'v (y'8 ‹_› ‹_›) (fun s hs => ?_) | refine y'5 ‹_› ?_ | refine y'6 ‹_› ?_) | ((with_reducible apply y'o); (· first | exact g0 | exact g1 | exact g2)) | fail) <;> (conv => whnf))
        exact ⟨n - (i + 1), by omega, Into.weak [0, 1, 2] [(5, .a (.ptr 1 0)), (12, .a (.slc 0 0 n n)), (13, .a (.int .i64 n)), (14, .a (.int .i64 ((i + 1 : Nat) : Int)))] [.cells rs 23 mr, .cells [.slc 2 0 len2 cap2] 146 false, .cells cs2 5 mk2] ⟨i + 1, cs2, x2, len2, cap2, mk2, by omega, rfl, hcs2, hl2, hc2, rfl, rfl⟩ ⟨rfl, rfl, rfl, congrArg (fun z => some (V.a (.int .i64 z))) hw, trivial⟩ ⟨ren_pl hp _ _ _, rfl, ren_fv hcs2 _ _ _, trivial⟩ (by simp [nodupb, baseb, Ob.okb, frmOk, V.okb, A.okb, hp.2, all_fv hcs2] <;> decide)⟩
      ·
        conv => whnf
        repeat' ((first | ((with_reducible refine y'r ?_ ?_); (· decide +kernel)) | ((with_reducible refine y'g ?_ ?_); (· exact ⟨_, rfl⟩)) | (with_reducible first | refine y'b ‹_› ?_ | refine y'n ‹_› ?_ | refine y'1 ‹_› ?_ | refine y'2 ‹_› ?_ | refine y'3 ?_ | refine y'4 ?_) | ((with_reducible refine y'n ?_ ?_); (· first | assumption | exact decide_eq_true (by omega) | decide +kernel)) | ((with_reducible refine y'b ?_ ?_); (· assumption)) | (with_reducible first | refine y'n (y'7 ‹_› ‹_›) ?_ | refine y'v (y'8 ‹_› ‹_›) (fun s hs => ?_) | refine y'5 ‹_› ?_ | refine y'6 ‹_› ?_) | ((with_reducible apply y'o); (· first | exact g0 | exact g1 | exact g2)) | fail) <;> (conv => whnf))
        exact ⟨n - (i + 1), by omega, Into.weak [0, 1, 3] [(5, .a (.ptr 1 0)), (12, .a (.slc 0 0 n n)), (13, .a (.int .i64 n)), (14, .a (.int .i64 ((i + 1 : Nat) : Int)))] [.cells rs 23 mr, .cells [.slc 2 0 len2 cap2] 146 false, .cells cs2 5 mk2] ⟨i + 1, cs2, x2, len2, cap2, mk2, by omega, rfl, hcs2, hl2, hc2, rfl, rfl⟩ ⟨rfl, rfl, rfl, congrArg (fun z => some (V.a (.int .i64 z))) hw, trivial⟩ ⟨ren_pl hp _ _ _, rfl, ren_fv hcs2 _ _ _, trivial⟩ (by simp [nodupb, baseb, Ob.okb, frmOk, V.okb, A.okb, hp.2, all_fv hcs2] <;> decide)⟩
    · have hin : i = n := by have := of_decide_eq_false h; omega
      rw [hin, List.take_of_length_le (by omega)] at hcs hl
      conv => whnf
      repeat' ((first | ((with_reducible refine y'r ?_ ?_); (· decide +kernel)) | ((with_reducible refine y'g ?_ ?_); (· exact ⟨_, rfl⟩)) | (with_reducible first | refine y'b ‹_› ?_ | refine y'n ‹_› ?_ | refine y'1 ‹_› ?_ | refine y'2 ‹_› ?_ | refine y'3 ?_ | refine y'4 ?_) | ((with_reducible refine y'n ?_ ?_); (· first | assumption | exact decide_eq_true (by omega) | decide +kernel)) | ((with_reducible refine y'b ?_ ?_); (· assumption)) | (with_reducible first | refine y'n (y'7 ‹_› ‹_›) ?_ | refine y'v (y'8 ‹_› ‹_›) (fun s hs => ?_) | refine y'5 ‹_› ?_ | refine y'6 ‹_› ?_) | ((with_reducible apply y'o); (· first | exact g0 | exact g1 | exact g2)) | fail) <;> (conv => whnf))
      refine Fn.frame [1, 2] (by rfl) (by exact ⟨rfl, ren_fv hcs _ _ _, trivial⟩) (by simp [nodupb, V.okb, A.okb, Ob.okb, all_fv hcs] <;> decide) (wtold _ x cs len cap mk hcs hl ?_)
      conv => whnf
      repeat' ((first | ((with_reducible refine y'r ?_ ?_); (· decide +kernel)) | ((with_reducible refine y'g ?_ ?_); (· exact ⟨_, rfl⟩)) | (with_reducible first | refine y'b ‹_› ?_ | refine y'n ‹_› ?_ | refine y'1 ‹_› ?_ | refine y'2 ‹_› ?_ | refine y'3 ?_ | refine y'4 ?_) | ((with_reducible refine y'n ?_ ?_); (· first | assumption | exact decide_eq_true (by omega) | decide +kernel)) | ((with_reducible refine y'b ?_ ?_); (· assumption)) | (with_reducible first | refine y'n (y'7 ‹_› ‹_›) ?_ | refine y'v (y'8 ‹_› ‹_›) (fun s hs => ?_) | refine y'5 ‹_› ?_ | refine y'6 ‹_› ?_) | ((with_reducible apply y'o); (· first | exact g0 | exact g1 | exact g2)) | fail) <;> (conv => whnf))
      exact keepOf (v₀ := .a (.str (bs ([kb] ++ fbytes xs)))) [.cells rs 23 mr] [0] rfl ⟨ren_pl hp _ _ _, trivial⟩ (by simp [nodupb, baseb, Ob.okb, frmOk, V.okb, A.okb, hp.2]) hK
set_option maxHeartbeats 400000 in
theorem real6 (x : Nat) (hx : x < 18446744073709551616) {K : V → Hp → Prop} (hK : K (.a (.str (bs ([2] ++ fbytes [x])))) []) :
    Go.Eng.Fn Tryd.prog ro 14 [.a (.flt .f64 x)] [] K := by
  refine Fn.weak ?_
  refine Fn.of_code (gOf []) Tryd.func14 rfl (Nat.le_of_ble_eq_true rfl) ?_
  conv => whnf
  repeat' ((first | ((with_reducible refine y'r ?_ ?_); (· decide +kernel)) | ((with_reducible refine y'g ?_ ?_); (· exact ⟨_, rfl⟩)) | (with_reducible first | refine y'b ‹_› ?_ | refine y'n ‹_› ?_ | refine y'1 ‹_› ?_ | refine y'2 ‹_› ?_ | refine y'3 ?_ | refine y'4 ?_) | ((with_reducible refine y'n ?_ ?_); (· first | assumption | exact decide_eq_true (by omega) | decide +kernel)) | ((with_reducible refine y'b ?_ ?_); (· assumption)) | (with_reducible first | refine y'n (y'7 ‹_› ‹_›) ?_ | refine y'v (y'8 ‹_› ‹_›) (fun s hs => ?_) | refine y'5 ‹_› ?_ | refine y'6 ‹_› ?_) | ((with_reducible apply y'o); (· first | exact g0 | exact g1 | exact g2)) | fail) <;> (conv => whnf))
  refine Fn.frame [0] (by rfl) (by exact ⟨rfl, trivial⟩) (by rfl) (floats 2 [x] [.flt .f64 x] 1 false (by unfold f64s; rfl) rfl (by decide) (by simpa using hx) ?_)
  conv => whnf
  repeat' ((first | ((with_reducible refine y'r ?_ ?_); (· decide +kernel)) | ((with_reducible refine y'g ?_ ?_); (· exact ⟨_, rfl⟩)) | (with_reducible first | refine y'b ‹_› ?_ | refine y'n ‹_› ?_ | refine y'1 ‹_› ?_ | refine y'2 ‹_› ?_ | refine y'3 ?_ | refine y'4 ?_) | ((with_reducible refine y'n ?_ ?_); (· first | assumption | exact decide_eq_true (by omega) | decide +kernel)) | ((with_reducible refine y'b ?_ ?_); (· assumption)) | (with_reducible first | refine y'n (y'7 ‹_› ‹_›) ?_ | refine y'v (y'8 ‹_› ‹_›) (fun s hs => ?_) | refine y'5 ‹_› ?_ | refine y'6 ‹_› ?_) | ((with_reducible apply y'o); (· first | exact g0 | exact g1 | exact g2)) | fail) <;> (conv => whnf))
  exact keepOf (v₀ := .a (.str (bs ([2] ++ fbytes [x])))) [] [] rfl trivial rfl hK
set_option maxHeartbeats 400000 in
theorem corner7 (x y : Nat) (hx : x < 18446744073709551616) (hy : y < 18446744073709551616) {K : V → Hp → Prop} (hK : K (.a (.str (bs ([5] ++ fbytes [x, y])))) []) :
    Go.Eng.Fn Tryd.prog ro 16 [.a (.cpx .f64 x y)] [] K := by
  refine Fn.weak ?_
  refine Fn.of_code (gOf []) Tryd.func16 rfl (Nat.le_of_ble_eq_true rfl) ?_
  conv => whnf
  repeat' ((first | ((with_reducible refine y'r ?_ ?_); (· decide +kernel)) | ((with_reducible refine y'g ?_ ?_); (· exact ⟨_, rfl⟩)) | (with_reducible first | refine y'b ‹_› ?_ | refine y'n ‹_› ?_ | refine y'1 ‹_› ?_ | refine y'2 ‹_› ?_ | refine y'3 ?_ | refine y'4 ?_) | ((with_reducible refine y'n ?_ ?_); (· first | assumption | exact decide_eq_true (by omega) | decide +kernel)) | ((with_reducible refine y'b ?_ ?_); (· assumption)) | (with_reducible first | refine y'n (y'7 ‹_› ‹_›) ?_ | refine y'v (y'8 ‹_› ‹_›) (fun s hs => ?_) | refine y'5 ‹_› ?_ | refine y'6 ‹_› ?_) | ((with_reducible apply y'o); (· first | exact g0 | exact g1 | exact g2)) | fail) <;> (conv => whnf))
  refine Fn.frame [0] (by rfl) (by exact ⟨rfl, trivial⟩) (by rfl) (floats 5 [x, y] [.flt .f64 x, .flt .f64 y] 2 false (by unfold f64s; rfl) rfl (by decide) (by simpa using ⟨hx, hy⟩) ?_)
  conv => whnf
  repeat' ((first | ((with_reducible refine y'r ?_ ?_); (· decide +kernel)) | ((with_reducible refine y'g ?_ ?_); (· exact ⟨_, rfl⟩)) | (with_reducible first | refine y'b ‹_› ?_ | refine y'n ‹_› ?_ | refine y'1 ‹_› ?_ | refine y'2 ‹_› ?_ | refine y'3 ?_ | refine y'4 ?_) | ((with_reducible refine y'n ?_ ?_); (· first | assumption | exact decide_eq_true (by omega) | decide +kernel)) | ((with_reducible refine y'b ?_ ?_); (· assumption)) | (with_reducible first | refine y'n (y'7 ‹_› ‹_›) ?_ | refine y'v (y'8 ‹_› ‹_›) (fun s hs => ?_) | refine y'5 ‹_› ?_ | refine y'6 ‹_› ?_) | ((with_reducible apply y'o); (· first | exact g0 | exact g1 | exact g2)) | fail) <;> (conv => whnf))
  exact keepOf (v₀ := .a (.str (bs ([5] ++ fbytes [x, y])))) [] [] rfl trivial rfl hK
end
end Go.Proofs.YtimddbgnaeeggaaDoor.KD
