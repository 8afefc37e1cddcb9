import Derived.Test.YtimddbgnaeeggaaDoorRE
namespace Go.Proofs.YtimddbgnaeeggaaDoor.KD
open Go.Eng
set_option maxRecDepth 100000
/-- A replica's part. -/
def cnt : List Cn → Nat → Cn
  | [], r => ⟨r, 0, 0⟩
  | e :: E, r => if e.who = r then e else cnt E r
section
variable {ro : Addr → A → Prop}
set_option maxHeartbeats 1000000 in
theorem countN (r : Int) {K : V → Hp → Prop} (hK : K (.g [.int .u8 r, .int .i64 0, .int .i64 0]) []) :
    Go.Eng.Fn Tryd.prog ro 91 [.g [.int .u8 3, .bool false, .nils, .nils, .nils], .a (.int .u8 r)] [] K := by
  refine Fn.weak ?_
  refine Fn.of_code (gOf []) Tryd.func91 rfl (Nat.le_of_ble_eq_true rfl) ?_
  conv => whnf
  repeat' ((first | ((with_reducible refine y'r ?_ ?_); (· decide +kernel)) | ((with_reducible refine y'g ?_ ?_); (· exact ⟨_, rfl⟩)) | (with_reducible first | refine y'b ‹_› ?_ | refine y'n ‹_› ?_ | refine y'1 ‹_› ?_ | refine y'2 ‹_› ?_ | refine y'3 ?_ | refine y'4 ?_) | ((with_reducible refine y'n ?_ ?_); (· first | assumption | exact decide_eq_true (by omega) | decide +kernel)) | ((with_reducible refine y'b ?_ ?_); (· assumption)) | (with_reducible first | refine y'n (y'7 ‹_› ‹_›) ?_ | refine y'v (y'8 ‹_› ‹_›) (fun s hs => ?_) | refine y'5 ‹_› ?_ | refine y'6 ‹_› ?_) | ((with_reducible apply y'o); (· first | exact g0 | exact g1 | exact g2)) | ((with_reducible refine y'p ?_ ?_); (· rfl)) | ((with_reducible refine y'q ?_ ?_); (· rfl)) | fail) <;> (conv => whnf))
  refine loopx_iter 1 ?_
  conv => whnf
  repeat' ((first | ((with_reducible refine y'r ?_ ?_); (· decide +kernel)) | ((with_reducible refine y'g ?_ ?_); (· exact ⟨_, rfl⟩)) | (with_reducible first | refine y'b ‹_› ?_ | refine y'n ‹_› ?_ | refine y'1 ‹_› ?_ | refine y'2 ‹_› ?_ | refine y'3 ?_ | refine y'4 ?_) | ((with_reducible refine y'n ?_ ?_); (· first | assumption | exact decide_eq_true (by omega) | decide +kernel)) | ((with_reducible refine y'b ?_ ?_); (· assumption)) | (with_reducible first | refine y'n (y'7 ‹_› ‹_›) ?_ | refine y'v (y'8 ‹_› ‹_›) (fun s hs => ?_) | refine y'5 ‹_› ?_ | refine y'6 ‹_› ?_) | ((with_reducible apply y'o); (· first | exact g0 | exact g1 | exact g2)) | ((with_reducible refine y'p ?_ ?_); (· rfl)) | ((with_reducible refine y'q ?_ ?_); (· rfl)) | fail) <;> (conv => whnf))
  exact keepOf (v₀ := .g [.int .u8 r, .int .i64 0, .int .i64 0]) [] [] rfl trivial rfl hK
set_option maxHeartbeats 4000000 in
theorem countC (E X : List Cn) (rs : List A) (n cap : Nat) (mk : Bool) (r : Nat) (hrs : rs = cts (E ++ X)) (hn : n = E.length) (hn9 : n ≤ 9) {K : V → Hp → Prop}
    (hK : K (.g (cnt E r).row) [.cells rs 104 mk]) :
    Go.Eng.Fn Tryd.prog ro 91 [.g [.int .u8 3, .bool false, .nils, .slc 0 0 n cap, .nils], .a (.int .u8 (r : Int))] [.cells rs 104 mk] K := by
  have hp := cts_pl hrs
  obtain ⟨q, hq⟩ : ∃ q : Int, q = (r : Int) := ⟨_, rfl⟩
  rw [← hq]
  refine Fn.weak ?_
  refine Fn.of 1 (gOf []) rfl Tryd.func91 rfl (Nat.le_of_ble_eq_true rfl) ?_
  conv => whnf
  repeat' ((first | ((with_reducible refine y'r ?_ ?_); (· decide +kernel)) | ((with_reducible refine y'g ?_ ?_); (· exact ⟨_, rfl⟩)) | (with_reducible first | refine y'b ‹_› ?_ | refine y'n ‹_› ?_ | refine y'1 ‹_› ?_ | refine y'2 ‹_› ?_ | refine y'3 ?_ | refine y'4 ?_) | ((with_reducible refine y'n ?_ ?_); (· first | assumption | exact decide_eq_true (by omega) | decide +kernel)) | ((with_reducible refine y'b ?_ ?_); (· assumption)) | (with_reducible first | refine y'n (y'7 ‹_› ‹_›) ?_ | refine y'v (y'8 ‹_› ‹_›) (fun s hs => ?_) | refine y'5 ‹_› ?_ | refine y'6 ‹_› ?_) | ((with_reducible apply y'o); (· first | exact g0 | exact g1 | exact g2)) | ((with_reducible refine y'p ?_ ?_); (· rfl)) | ((with_reducible refine y'q ?_ ?_); (· rfl)) | fail) <;> (conv => whnf))
  refine loopx_of (fun m F H => ∃ (i : Nat) (z : Int), z = (i : Int) ∧ i ≤ n ∧ m = n - i ∧ cnt E r = cnt (E.drop i) r ∧ F = [(1, .a (.int .u8 q)), (2, .a (.ptr 1 0)), (4, .a (.ptr 2 0)), (5, .a (.int .i64 z))] ∧ H = [.cells rs 104 mk, .cells [.int .u8 3, .bool false, .nils, .slc 0 0 n cap, .nils] 57 false, .cells [.int .u8 0, .int .i64 0, .int .i64 0] 104 false]) n ?_ ?_
  · exact Into.weak [0, 1, 2] [(1, .a (.int .u8 q)), (2, .a (.ptr 1 0)), (4, .a (.ptr 2 0)), (5, .a (.int .i64 0))] [.cells rs 104 mk, .cells [.int .u8 3, .bool false, .nils, .slc 0 0 n cap, .nils] 57 false, .cells [.int .u8 0, .int .i64 0, .int .i64 0] 104 false] ⟨0, 0, rfl, Nat.zero_le _, rfl, rfl, rfl, rfl⟩ ⟨rfl, rfl, rfl, rfl, trivial⟩ ⟨ren_pl hp _ _ _, rfl, rfl, trivial⟩ (by simp [nodupb, baseb, Ob.okb, frmOk, V.okb, A.okb, hp.2] <;> decide)
  · rintro m F H ⟨i, z, hz, hi, rfl, hcn, rfl, rfl⟩
    have hw : IntKind.i64.wrap (z + 1) = ((i + 1 : Nat) : Int) := by rw [i64w (by omega) (by omega)]; omega
    by_cases hin : i < n
    · have d1 : decide (z < (n : Int)) = true := decide_eq_true (by omega)
      obtain ⟨e, he⟩ : ∃ e, E[i]? = some e := ⟨_, List.getElem?_eq_getElem (by omega)⟩
      have heX : (E ++ X)[i]? = some e := by rw [List.getElem?_append_left (by omega)]; exact he
      have hdr : E.drop i = e :: E.drop (i + 1) := by
        obtain ⟨h1, h2⟩ := List.getElem?_eq_some_iff.1 he
        rw [List.drop_eq_getElem_cons h1, h2]
      rw [hdr] at hcn
      obtain ⟨w, hw0⟩ : ∃ w : Int, w = (e.who : Int) := ⟨_, rfl⟩
      have q1 : rs[0 + z.toNat * Tryd.prog.types[104].size + 0]? = some (.int .u8 w) := by rw [hz, Int.toNat_natCast, s68, Nat.zero_add, Nat.add_zero, hw0]; exact cts_get0 hrs heX
      conv => whnf
      repeat' ((first | ((with_reducible refine y'r ?_ ?_); (· decide +kernel)) | ((with_reducible refine y'g ?_ ?_); (· exact ⟨_, rfl⟩)) | (with_reducible first | refine y'b ‹_› ?_ | refine y'n ‹_› ?_ | refine y'1 ‹_› ?_ | refine y'2 ‹_› ?_ | refine y'3 ?_ | refine y'4 ?_) | ((with_reducible refine y'n ?_ ?_); (· first | assumption | exact decide_eq_true (by omega) | decide +kernel)) | ((with_reducible refine y'b ?_ ?_); (· assumption)) | (with_reducible first | refine y'n (y'7 ‹_› ‹_›) ?_ | refine y'v (y'8 ‹_› ‹_›) (fun s hs => ?_) | refine y'5 ‹_› ?_ | refine y'6 ‹_› ?_) | ((with_reducible apply y'o); (· first | exact g0 | exact g1 | exact g2)) | ((with_reducible refine y'p ?_ ?_); (· rfl)) | ((with_reducible refine y'q ?_ ?_); (· rfl)) | fail) <;> (conv => whnf))
      refine y'o (show rs[0 + z.toNat * Tryd.prog.types[104].size + 0]? = some (.int .u8 w) from q1) ?_
      by_cases hr : e.who = r
      · have c1 : (w == q) = true := by simp; omega
        have hce : cnt E r = e := by rw [hcn]; unfold cnt; rw [if_pos hr]
        have hk := hK
        rw [hce] at hk
        have hpk := cts_pick hrs heX
        rw [← hz] at hpk
        obtain ⟨xr, hxr⟩ : ∃ xr : List A, xr = e.row := ⟨_, rfl⟩
        have hxr2 : ([.int .u8 e.who, .int .i64 e.up, .int .i64 e.down] : List A) = xr := by rw [hxr]; rfl
        rw [hxr2] at hpk
        rw [← hxr] at hk
        have hxp : Pl xr := by rw [hxr]; exact ⟨fun _ => rfl, fun _ => rfl⟩
        have hxl : xr.length = 3 := by rw [hxr]; rfl
        have hok : decide (0 + z.toNat * Tryd.prog.types[104].size + Tryd.prog.types[104].size ≤ rs.length) = true := by rw [hz]; exact cts_ok hrs (by rw [List.length_append]; omega)
        conv => whnf
        repeat' ((first | ((with_reducible refine y'r ?_ ?_); (· decide +kernel)) | ((with_reducible refine y'g ?_ ?_); (· exact ⟨_, rfl⟩)) | (with_reducible first | refine y'b ‹_› ?_ | refine y'n ‹_› ?_ | refine y'1 ‹_› ?_ | refine y'2 ‹_› ?_ | refine y'3 ?_ | refine y'4 ?_) | ((with_reducible refine y'n ?_ ?_); (· first | assumption | exact decide_eq_true (by omega) | decide +kernel)) | ((with_reducible refine y'b ?_ ?_); (· assumption)) | (with_reducible first | refine y'n (y'7 ‹_› ‹_›) ?_ | refine y'v (y'8 ‹_› ‹_›) (fun s hs => ?_) | refine y'5 ‹_› ?_ | refine y'6 ‹_› ?_) | ((with_reducible apply y'o); (· first | exact g0 | exact g1 | exact g2)) | ((with_reducible refine y'p ?_ ?_); (· rfl)) | ((with_reducible refine y'q ?_ ?_); (· rfl)) | fail) <;> (conv => whnf))
        refine y't hpk ?_
        conv => whnf
        repeat' ((first | ((with_reducible refine y'r ?_ ?_); (· decide +kernel)) | ((with_reducible refine y'g ?_ ?_); (· exact ⟨_, rfl⟩)) | (with_reducible first | refine y'b ‹_› ?_ | refine y'n ‹_› ?_ | refine y'1 ‹_› ?_ | refine y'2 ‹_› ?_ | refine y'3 ?_ | refine y'4 ?_) | ((with_reducible refine y'n ?_ ?_); (· first | assumption | exact decide_eq_true (by omega) | decide +kernel)) | ((with_reducible refine y'b ?_ ?_); (· assumption)) | (with_reducible first | refine y'n (y'7 ‹_› ‹_›) ?_ | refine y'v (y'8 ‹_› ‹_›) (fun s hs => ?_) | refine y'5 ‹_› ?_ | refine y'6 ‹_› ?_) | ((with_reducible apply y'o); (· first | exact g0 | exact g1 | exact g2)) | ((with_reducible refine y'p ?_ ?_); (· rfl)) | ((with_reducible refine y'q ?_ ?_); (· rfl)) | fail) <;> (conv => whnf))
        refine y'n (by rw [hxl]; rfl) ?_
        conv => whnf
        repeat' ((first | ((with_reducible refine y'r ?_ ?_); (· decide +kernel)) | ((with_reducible refine y'g ?_ ?_); (· exact ⟨_, rfl⟩)) | (with_reducible first | refine y'b ‹_› ?_ | refine y'n ‹_› ?_ | refine y'1 ‹_› ?_ | refine y'2 ‹_› ?_ | refine y'3 ?_ | refine y'4 ?_) | ((with_reducible refine y'n ?_ ?_); (· first | assumption | exact decide_eq_true (by omega) | decide +kernel)) | ((with_reducible refine y'b ?_ ?_); (· assumption)) | (with_reducible first | refine y'n (y'7 ‹_› ‹_›) ?_ | refine y'v (y'8 ‹_› ‹_›) (fun s hs => ?_) | refine y'5 ‹_› ?_ | refine y'6 ‹_› ?_) | ((with_reducible apply y'o); (· first | exact g0 | exact g1 | exact g2)) | ((with_reducible refine y'p ?_ ?_); (· rfl)) | ((with_reducible refine y'q ?_ ?_); (· rfl)) | fail) <;> (conv => whnf))
        refine y't (store_all (by rw [hxl]; rfl)) ?_
        conv => whnf
        repeat' ((first | ((with_reducible refine y'r ?_ ?_); (· decide +kernel)) | ((with_reducible refine y'g ?_ ?_); (· exact ⟨_, rfl⟩)) | (with_reducible first | refine y'b ‹_› ?_ | refine y'n ‹_› ?_ | refine y'1 ‹_› ?_ | refine y'2 ‹_› ?_ | refine y'3 ?_ | refine y'4 ?_) | ((with_reducible refine y'n ?_ ?_); (· first | assumption | exact decide_eq_true (by omega) | decide +kernel)) | ((with_reducible refine y'b ?_ ?_); (· assumption)) | (with_reducible first | refine y'n (y'7 ‹_› ‹_›) ?_ | refine y'v (y'8 ‹_› ‹_›) (fun s hs => ?_) | refine y'5 ‹_› ?_ | refine y'6 ‹_› ?_) | ((with_reducible apply y'o); (· first | exact g0 | exact g1 | exact g2)) | ((with_reducible refine y'p ?_ ?_); (· rfl)) | ((with_reducible refine y'q ?_ ?_); (· rfl)) | fail) <;> (conv => whnf))
        refine y'n (by rw [s68, hxl]; rfl) ?_
        conv => whnf
        have hxw : List.drop 0 (List.take (0 + Tryd.prog.types[104].size) xr) = xr := by rw [s68, List.drop_zero, List.take_of_length_le (by omega)]
        rw [hxw]
        exact keepOf (v₀ := .g xr) [.cells rs 104 mk] [0] (by simp [V.ren, hxp.1]) ⟨ren_pl hp _ _ _, trivial⟩ (by simp [nodupb, baseb, Ob.okb, frmOk, V.okb, hp.2, hxp.2] <;> decide) hk
      · have c1 : (w == q) = false := by simp; omega
        conv => whnf
        repeat' ((first | ((with_reducible refine y'r ?_ ?_); (· decide +kernel)) | ((with_reducible refine y'g ?_ ?_); (· exact ⟨_, rfl⟩)) | (with_reducible first | refine y'b ‹_› ?_ | refine y'n ‹_› ?_ | refine y'1 ‹_› ?_ | refine y'2 ‹_› ?_ | refine y'3 ?_ | refine y'4 ?_) | ((with_reducible refine y'n ?_ ?_); (· first | assumption | exact decide_eq_true (by omega) | decide +kernel)) | ((with_reducible refine y'b ?_ ?_); (· assumption)) | (with_reducible first | refine y'n (y'7 ‹_› ‹_›) ?_ | refine y'v (y'8 ‹_› ‹_›) (fun s hs => ?_) | refine y'5 ‹_› ?_ | refine y'6 ‹_› ?_) | ((with_reducible apply y'o); (· first | exact g0 | exact g1 | exact g2)) | ((with_reducible refine y'p ?_ ?_); (· rfl)) | ((with_reducible refine y'q ?_ ?_); (· rfl)) | fail) <;> (conv => whnf))
        exact ⟨n - (i + 1), by omega, Into.weak [0, 1, 2] [(1, .a (.int .u8 q)), (2, .a (.ptr 1 0)), (4, .a (.ptr 2 0)), (5, .a (.int .i64 ((i + 1 : Nat) : Int)))] [.cells rs 104 mk, .cells [.int .u8 3, .bool false, .nils, .slc 0 0 n cap, .nils] 57 false, .cells [.int .u8 0, .int .i64 0, .int .i64 0] 104 false] ⟨i + 1, _, rfl, by omega, rfl, by rw [hcn]; show (if _ then _ else _) = _; rw [if_neg hr], rfl, rfl⟩ ⟨rfl, rfl, rfl, congrArg (fun z => some (V.a (.int .i64 z))) hw, trivial⟩ ⟨ren_pl hp _ _ _, rfl, rfl, trivial⟩ (by simp [nodupb, baseb, Ob.okb, frmOk, V.okb, A.okb, hp.2] <;> decide)⟩
    · have d1 : decide (z < (n : Int)) = false := decide_eq_false (by omega)
      rw [List.drop_eq_nil_of_le (by omega)] at hcn
      have hk := hK
      rw [hcn] at hk
      have hk2 : K (.g [.int .u8 q, .int .i64 0, .int .i64 0]) [.cells rs 104 mk] := by rw [hq]; exact hk
      conv => whnf
      repeat' ((first | ((with_reducible refine y'r ?_ ?_); (· decide +kernel)) | ((with_reducible refine y'g ?_ ?_); (· exact ⟨_, rfl⟩)) | (with_reducible first | refine y'b ‹_› ?_ | refine y'n ‹_› ?_ | refine y'1 ‹_› ?_ | refine y'2 ‹_› ?_ | refine y'3 ?_ | refine y'4 ?_) | ((with_reducible refine y'n ?_ ?_); (· first | assumption | exact decide_eq_true (by omega) | decide +kernel)) | ((with_reducible refine y'b ?_ ?_); (· assumption)) | (with_reducible first | refine y'n (y'7 ‹_› ‹_›) ?_ | refine y'v (y'8 ‹_› ‹_›) (fun s hs => ?_) | refine y'5 ‹_› ?_ | refine y'6 ‹_› ?_) | ((with_reducible apply y'o); (· first | exact g0 | exact g1 | exact g2)) | ((with_reducible refine y'p ?_ ?_); (· rfl)) | ((with_reducible refine y'q ?_ ?_); (· rfl)) | fail) <;> (conv => whnf))
      exact keepOf (v₀ := .g [.int .u8 q, .int .i64 0, .int .i64 0]) [.cells rs 104 mk] [0] rfl ⟨ren_pl hp _ _ _, trivial⟩ (by simp [nodupb, baseb, Ob.okb, frmOk, V.okb, A.okb, hp.2] <;> decide) hk2
end
end Go.Proofs.YtimddbgnaeeggaaDoor.KD
