import Derived.Test.YtimddbgnaeeggaaDoorRH
namespace Go.Proofs.YtimddbgnaeeggaaDoor.KD
open Go.Eng
set_option maxRecDepth 100000
/-! Rows of runes. -/
@[irreducible] def i32s (L : List Nat) : List A := L.map fun (r : Nat) => .int .i32 (r : Int)
theorem i32s_nil : i32s [] = [] := by unfold i32s; rfl
theorem i32s_append (L M : List Nat) : i32s (L ++ M) = i32s L ++ i32s M := by unfold i32s; simp
theorem i32s_len (L : List Nat) : (i32s L).length = L.length := by unfold i32s; simp
theorem i32s_pl {rs : List A} {L : List Nat} (h : rs = i32s L) : Pl rs := by
  subst h
  unfold i32s
  exact ⟨fun δ => by rw [List.map_map]; rfl, fun n => by simp [A.okb]⟩
theorem i32s_get {rs : List A} {L : List Nat} {i r : Nat} (h : rs = i32s L) (hr : L[i]? = some r) : rs[i]? = some (.int .i32 (r : Int)) := by
  subst h; unfold i32s; rw [List.getElem?_map, hr]; rfl
theorem s21 : Tryd.prog.types[21].size = 1 := rfl
/-- Are runes right ones, behind one? -/
def rgR : Int → List Nat → Bool
  | _, [] => true
  | last, r :: L => if vrI (r : Int) = false ∨ (r : Int) ≤ last then false else rgR (r : Int) L
def lastAt (L : List Nat) : Nat → Int
  | 0 => -1
  | i + 1 => match L[i]? with
    | some r => (r : Int)
    | none => 0
section
variable {ro : Addr → A → Prop}
set_option maxHeartbeats 4000000 in
theorem rightX (k : Int) (on : Bool) (L X : List Nat) (fs rs : List A) (n1 c1 n cap : Nat) (mk1 mk : Bool) (hfp : Pl fs) (hrs : rs = i32s (L ++ X)) (hn : n = L.length) (hn9 : n ≤ 1000) {K : V → Hp → Prop}
    (hK : K (.a (.bool (rgR (-1) L))) [.cells fs 23 mk1, .cells rs 21 mk]) :
    Go.Eng.Fn Tryd.prog ro 63 [.g [.int .u8 k, .bool on, .slc 0 0 n1 c1, .nils, .slc 1 0 n cap]] [.cells fs 23 mk1, .cells rs 21 mk] K := by
  have hp := i32s_pl hrs
  refine Fn.weak ?_
  refine Fn.of 2 h63 rfl Tryd.func63 rfl (Nat.le_of_ble_eq_true rfl) ?_
  conv => whnf
  repeat' ((first | ((with_reducible refine y'r ?_ ?_); (· decide +kernel)) | ((with_reducible refine y'g ?_ ?_); (· exact ⟨_, rfl⟩)) | (with_reducible first | refine y'b ‹_› ?_ | refine y'n ‹_› ?_ | refine y'1 ‹_› ?_ | refine y'2 ‹_› ?_ | refine y'3 ?_ | refine y'4 ?_) | ((with_reducible refine y'n ?_ ?_); (· first | assumption | exact decide_eq_true (by omega) | decide +kernel)) | ((with_reducible refine y'b ?_ ?_); (· assumption)) | (with_reducible first | refine y'n (y'7 ‹_› ‹_›) ?_ | refine y'v (y'8 ‹_› ‹_›) (fun s hs => ?_) | refine y'5 ‹_› ?_ | refine y'6 ‹_› ?_) | ((with_reducible apply y'o); (· first | exact g0 | exact g1)) | ((with_reducible refine y'p ?_ ?_); (· rfl)) | ((with_reducible refine y'q ?_ ?_); (· rfl)) | fail) <;> (conv => whnf))
  refine loopx_iter 1 ?_
  conv => whnf
  repeat' ((first | ((with_reducible refine y'r ?_ ?_); (· decide +kernel)) | ((with_reducible refine y'g ?_ ?_); (· exact ⟨_, rfl⟩)) | (with_reducible first | refine y'b ‹_› ?_ | refine y'n ‹_› ?_ | refine y'1 ‹_› ?_ | refine y'2 ‹_› ?_ | refine y'3 ?_ | refine y'4 ?_) | ((with_reducible refine y'n ?_ ?_); (· first | assumption | exact decide_eq_true (by omega) | decide +kernel)) | ((with_reducible refine y'b ?_ ?_); (· assumption)) | (with_reducible first | refine y'n (y'7 ‹_› ‹_›) ?_ | refine y'v (y'8 ‹_› ‹_›) (fun s hs => ?_) | refine y'5 ‹_› ?_ | refine y'6 ‹_› ?_) | ((with_reducible apply y'o); (· first | exact g0 | exact g1)) | ((with_reducible refine y'p ?_ ?_); (· rfl)) | ((with_reducible refine y'q ?_ ?_); (· rfl)) | fail) <;> (conv => whnf))
  refine loopx_of (fun m F H => ∃ (i : Nat) (z : Int), z = (i : Int) ∧ i ≤ n ∧ m = n - i ∧ rgR (-1) L = rgR (lastAt L i) (L.drop i) ∧ F = [(1, .a (.ptr 2 0)), (5, .a (.int .i64 z))] ∧ H = [.cells fs 23 mk1, .cells rs 21 mk, .cells [.int .u8 k, .bool on, .slc 0 0 n1 c1, .nils, .slc 1 0 n cap] 57 false]) n ?_ ?_
  · exact Into.weak [0, 1, 2] [(1, .a (.ptr 2 0)), (5, .a (.int .i64 0))] [.cells fs 23 mk1, .cells rs 21 mk, .cells [.int .u8 k, .bool on, .slc 0 0 n1 c1, .nils, .slc 1 0 n cap] 57 false] ⟨0, 0, rfl, Nat.zero_le _, rfl, rfl, rfl, rfl⟩ ⟨rfl, rfl, trivial⟩ ⟨ren_pl hfp _ _ _, ren_pl hp _ _ _, rfl, trivial⟩ (by simp [nodupb, baseb, Ob.okb, frmOk, V.okb, A.okb, hp.2, hfp.2] <;> decide)
  · rintro m F H ⟨i, z, hz, hi, rfl, hr, rfl, rfl⟩
    have hw : IntKind.i64.wrap (z + 1) = ((i + 1 : Nat) : Int) := by rw [i64w (by omega) (by omega)]; omega
    by_cases hin : i < n
    · have d1 : decide (z < (n : Int)) = true := decide_eq_true (by omega)
      have d2 : decide (0 ≤ z ∧ z < (n : Int)) = true := decide_eq_true (by omega)
      obtain ⟨e, he⟩ : ∃ e, L[i]? = some e := ⟨_, List.getElem?_eq_getElem (by omega)⟩
      have hdr : L.drop i = e :: L.drop (i + 1) := by
        obtain ⟨h1, h2⟩ := List.getElem?_eq_some_iff.1 he
        rw [List.drop_eq_getElem_cons h1, h2]
      rw [hdr] at hr
      have hwn : lastAt L (i + 1) = (e : Int) := by
        show (match L[i]? with | some r => (r : Int) | none => 0) = _
        rw [he]
      obtain ⟨w, hw0⟩ : ∃ w : Int, w = (e : Int) := ⟨_, rfl⟩
      have g0 : rs[0 + z.toNat * Tryd.prog.types[21].size]? = some (.int .i32 w) := by
        rw [hz, Int.toNat_natCast, s21, Nat.zero_add, Nat.mul_one, hw0]
        exact i32s_get hrs (by rw [List.getElem?_append_left (by omega)]; exact he)
      have hfalse : (vrI w = false ∨ w ≤ lastAt L i) → rgR (-1) L = false := fun hh => by
        rw [hr]
        show (if _ then _ else _) = _
        rw [if_pos (by rw [← hw0]; exact hh)]
      have hgood : ¬ (vrI w = false ∨ w ≤ lastAt L i) → rgR (-1) L = rgR (lastAt L (i + 1)) (L.drop (i + 1)) := fun hh => by
        rw [hr, hwn]
        show (if _ then _ else _) = _
        rw [if_neg (by rw [← hw0]; exact hh)]
      conv => whnf
      repeat' ((first | ((with_reducible refine y'r ?_ ?_); (· decide +kernel)) | ((with_reducible refine y'g ?_ ?_); (· exact ⟨_, rfl⟩)) | (with_reducible first | refine y'b ‹_› ?_ | refine y'n ‹_› ?_ | refine y'1 ‹_› ?_ | refine y'2 ‹_› ?_ | refine y'3 ?_ | refine y'4 ?_) | ((with_reducible refine y'n ?_ ?_); (· first | assumption | exact decide_eq_true (by omega) | decide +kernel)) | ((with_reducible refine y'b ?_ ?_); (· assumption)) | (with_reducible first | refine y'n (y'7 ‹_› ‹_›) ?_ | refine y'v (y'8 ‹_› ‹_›) (fun s hs => ?_) | refine y'5 ‹_› ?_ | refine y'6 ‹_› ?_) | ((with_reducible apply y'o); (· first | exact g0 | exact g1)) | ((with_reducible refine y'p ?_ ?_); (· rfl)) | ((with_reducible refine y'q ?_ ?_); (· rfl)) | fail) <;> (conv => whnf))
      refine Fn.frame [] (by rfl) (by exact trivial) (by rfl) (isRune1 w ?_)
      cases hv : vrI w with
      | false =>
        have hk := hK
        rw [hfalse (.inl hv)] at hk
        conv => whnf
        repeat' ((first | ((with_reducible refine y'r ?_ ?_); (· decide +kernel)) | ((with_reducible refine y'g ?_ ?_); (· exact ⟨_, rfl⟩)) | (with_reducible first | refine y'b ‹_› ?_ | refine y'n ‹_› ?_ | refine y'1 ‹_› ?_ | refine y'2 ‹_› ?_ | refine y'3 ?_ | refine y'4 ?_) | ((with_reducible refine y'n ?_ ?_); (· first | assumption | exact decide_eq_true (by omega) | decide +kernel)) | ((with_reducible refine y'b ?_ ?_); (· assumption)) | (with_reducible first | refine y'n (y'7 ‹_› ‹_›) ?_ | refine y'v (y'8 ‹_› ‹_›) (fun s hs => ?_) | refine y'5 ‹_› ?_ | refine y'6 ‹_› ?_) | ((with_reducible apply y'o); (· first | exact g0 | exact g1)) | ((with_reducible refine y'p ?_ ?_); (· rfl)) | ((with_reducible refine y'q ?_ ?_); (· rfl)) | fail) <;> (conv => whnf))
        exact keepOf (v₀ := .a (.bool false)) [.cells fs 23 mk1, .cells rs 21 mk] [0, 1] rfl ⟨ren_pl hfp _ _ _, ren_pl hp _ _ _, trivial⟩ (by simp [nodupb, baseb, Ob.okb, frmOk, V.okb, A.okb, hp.2, hfp.2] <;> decide) hk
      | true =>
        by_cases q : i = 0
        · have c5 : decide (z > 0) = false := decide_eq_false (by omega)
          have hla : lastAt L i = -1 := by rw [q]; rfl
          conv => whnf
          repeat' ((first | ((with_reducible refine y'r ?_ ?_); (· decide +kernel)) | ((with_reducible refine y'g ?_ ?_); (· exact ⟨_, rfl⟩)) | (with_reducible first | refine y'b ‹_› ?_ | refine y'n ‹_› ?_ | refine y'1 ‹_› ?_ | refine y'2 ‹_› ?_ | refine y'3 ?_ | refine y'4 ?_) | ((with_reducible refine y'n ?_ ?_); (· first | assumption | exact decide_eq_true (by omega) | decide +kernel)) | ((with_reducible refine y'b ?_ ?_); (· assumption)) | (with_reducible first | refine y'n (y'7 ‹_› ‹_›) ?_ | refine y'v (y'8 ‹_› ‹_›) (fun s hs => ?_) | refine y'5 ‹_› ?_ | refine y'6 ‹_› ?_) | ((with_reducible apply y'o); (· first | exact g0 | exact g1)) | ((with_reducible refine y'p ?_ ?_); (· rfl)) | ((with_reducible refine y'q ?_ ?_); (· rfl)) | fail) <;> (conv => whnf))
          exact ⟨n - (i + 1), by omega, Into.weak [0, 1, 2] [(1, .a (.ptr 2 0)), (5, .a (.int .i64 ((i + 1 : Nat) : Int)))] [.cells fs 23 mk1, .cells rs 21 mk, .cells [.int .u8 k, .bool on, .slc 0 0 n1 c1, .nils, .slc 1 0 n cap] 57 false] ⟨i + 1, _, rfl, by omega, rfl, hgood (by rw [hv, hla]; simp; omega), rfl, rfl⟩ ⟨rfl, congrArg (fun z => some (V.a (.int .i64 z))) hw, trivial⟩ ⟨ren_pl hfp _ _ _, ren_pl hp _ _ _, rfl, trivial⟩ (by simp [nodupb, baseb, Ob.okb, frmOk, V.okb, A.okb, hp.2, hfp.2] <;> decide)⟩
        · have c5 : decide (z > 0) = true := decide_eq_true (by omega)
          obtain ⟨e', he'⟩ : ∃ e', L[i - 1]? = some e' := ⟨_, List.getElem?_eq_getElem (by omega)⟩
          have hla : lastAt L i = (e' : Int) := by
            obtain ⟨j, rfl⟩ : ∃ j, i = j + 1 := ⟨i - 1, by omega⟩
            show (match L[j]? with | some r => (r : Int) | none => 0) = _
            rw [show L[j]? = some e' from he']
          obtain ⟨w', hw'0⟩ : ∃ w' : Int, w' = (e' : Int) := ⟨_, rfl⟩
          have hzm : IntKind.i64.wrap (z - 1) = ((i - 1 : Nat) : Int) := by rw [i64w (by omega) (by omega)]; omega
          have d3 : decide (0 ≤ IntKind.i64.wrap (z - 1) ∧ IntKind.i64.wrap (z - 1) < (n : Int)) = true := by rw [hzm]; exact decide_eq_true (by omega)
          have g1 : rs[0 + (IntKind.i64.wrap (z - 1)).toNat * Tryd.prog.types[21].size]? = some (.int .i32 w') := by
            rw [hzm, Int.toNat_natCast, s21, Nat.zero_add, Nat.mul_one, hw'0]
            exact i32s_get hrs (by rw [List.getElem?_append_left (by omega)]; exact he')
          by_cases q6 : w ≤ w'
          · have c6 : decide (w ≤ w') = true := decide_eq_true q6
            have hk := hK
            rw [hfalse (.inr (by rw [hla]; omega))] at hk
            conv => whnf
            repeat' ((first | ((with_reducible refine y'r ?_ ?_); (· decide +kernel)) | ((with_reducible refine y'g ?_ ?_); (· exact ⟨_, rfl⟩)) | (with_reducible first | refine y'b ‹_› ?_ | refine y'n ‹_› ?_ | refine y'1 ‹_› ?_ | refine y'2 ‹_› ?_ | refine y'3 ?_ | refine y'4 ?_) | ((with_reducible refine y'n ?_ ?_); (· first | assumption | exact decide_eq_true (by omega) | decide +kernel)) | ((with_reducible refine y'b ?_ ?_); (· assumption)) | (with_reducible first | refine y'n (y'7 ‹_› ‹_›) ?_ | refine y'v (y'8 ‹_› ‹_›) (fun s hs => ?_) | refine y'5 ‹_› ?_ | refine y'6 ‹_› ?_) | ((with_reducible apply y'o); (· first | exact g0 | exact g1)) | ((with_reducible refine y'p ?_ ?_); (· rfl)) | ((with_reducible refine y'q ?_ ?_); (· rfl)) | fail) <;> (conv => whnf))
            exact keepOf (v₀ := .a (.bool false)) [.cells fs 23 mk1, .cells rs 21 mk] [0, 1] rfl ⟨ren_pl hfp _ _ _, ren_pl hp _ _ _, trivial⟩ (by simp [nodupb, baseb, Ob.okb, frmOk, V.okb, A.okb, hp.2, hfp.2] <;> decide) hk
          · have c6 : decide (w ≤ w') = false := decide_eq_false q6
            conv => whnf
            repeat' ((first | ((with_reducible refine y'r ?_ ?_); (· decide +kernel)) | ((with_reducible refine y'g ?_ ?_); (· exact ⟨_, rfl⟩)) | (with_reducible first | refine y'b ‹_› ?_ | refine y'n ‹_› ?_ | refine y'1 ‹_› ?_ | refine y'2 ‹_› ?_ | refine y'3 ?_ | refine y'4 ?_) | ((with_reducible refine y'n ?_ ?_); (· first | assumption | exact decide_eq_true (by omega) | decide +kernel)) | ((with_reducible refine y'b ?_ ?_); (· assumption)) | (with_reducible first | refine y'n (y'7 ‹_› ‹_›) ?_ | refine y'v (y'8 ‹_› ‹_›) (fun s hs => ?_) | refine y'5 ‹_› ?_ | refine y'6 ‹_› ?_) | ((with_reducible apply y'o); (· first | exact g0 | exact g1)) | ((with_reducible refine y'p ?_ ?_); (· rfl)) | ((with_reducible refine y'q ?_ ?_); (· rfl)) | fail) <;> (conv => whnf))
            exact ⟨n - (i + 1), by omega, Into.weak [0, 1, 2] [(1, .a (.ptr 2 0)), (5, .a (.int .i64 ((i + 1 : Nat) : Int)))] [.cells fs 23 mk1, .cells rs 21 mk, .cells [.int .u8 k, .bool on, .slc 0 0 n1 c1, .nils, .slc 1 0 n cap] 57 false] ⟨i + 1, _, rfl, by omega, rfl, hgood (by rw [hv, hla]; simp; omega), rfl, rfl⟩ ⟨rfl, congrArg (fun z => some (V.a (.int .i64 z))) hw, trivial⟩ ⟨ren_pl hfp _ _ _, ren_pl hp _ _ _, rfl, trivial⟩ (by simp [nodupb, baseb, Ob.okb, frmOk, V.okb, A.okb, hp.2, hfp.2] <;> decide)⟩
    · have d1 : decide (z < (n : Int)) = false := decide_eq_false (by omega)
      rw [show i = n by omega, List.drop_eq_nil_of_le (by omega)] at hr
      have hk := hK
      rw [hr] at hk
      conv => whnf
      repeat' ((first | ((with_reducible refine y'r ?_ ?_); (· decide +kernel)) | ((with_reducible refine y'g ?_ ?_); (· exact ⟨_, rfl⟩)) | (with_reducible first | refine y'b ‹_› ?_ | refine y'n ‹_› ?_ | refine y'1 ‹_› ?_ | refine y'2 ‹_› ?_ | refine y'3 ?_ | refine y'4 ?_) | ((with_reducible refine y'n ?_ ?_); (· first | assumption | exact decide_eq_true (by omega) | decide +kernel)) | ((with_reducible refine y'b ?_ ?_); (· assumption)) | (with_reducible first | refine y'n (y'7 ‹_› ‹_›) ?_ | refine y'v (y'8 ‹_› ‹_›) (fun s hs => ?_) | refine y'5 ‹_› ?_ | refine y'6 ‹_› ?_) | ((with_reducible apply y'o); (· first | exact g0 | exact g1)) | ((with_reducible refine y'p ?_ ?_); (· rfl)) | ((with_reducible refine y'q ?_ ?_); (· rfl)) | fail) <;> (conv => whnf))
      exact keepOf (v₀ := .a (.bool true)) [.cells fs 23 mk1, .cells rs 21 mk] [0, 1] rfl ⟨ren_pl hfp _ _ _, ren_pl hp _ _ _, trivial⟩ (by simp [nodupb, baseb, Ob.okb, frmOk, V.okb, A.okb, hp.2, hfp.2] <;> decide) hk
end
end Go.Proofs.YtimddbgnaeeggaaDoor.KD
