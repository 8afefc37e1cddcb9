import Derived.Test.YtimddbgnaeeggaaDoorRT
namespace Go.Proofs.YtimddbgnaeeggaaDoor.KD
open Go.Eng
set_option maxRecDepth 100000
/-- Are counts right ones, behind a replica? -/
def rgt : Nat → List Cn → Bool
  | _, [] => true
  | last, e :: E => if e.who ≤ last ∨ 5 < e.who ∨ (e.up = 0 ∧ e.down = 0) then false else rgt e.who E
def whoAt (E : List Cn) : Nat → Nat
  | 0 => 0
  | i + 1 => match E[i]? with
    | some e => e.who
    | none => 0
theorem cts_get0 {rs : List A} {E : List Cn} {i : Nat} {e : Cn} (h : rs = cts E) (he : E[i]? = some e) : rs[i * 3]? = some (.int .u8 (e.who : Int)) := by
  have := congrArg (fun l => l[0]?) (cts_drop he)
  simp only [List.getElem?_take_of_lt (show 0 < 3 by decide), List.getElem?_drop, Nat.add_zero] at this
  rw [h, this]
  rfl
section
variable {ro : Addr → A → Prop}
set_option maxHeartbeats 4000000 in
theorem rightC (E X : List Cn) (rs : List A) (n cap : Nat) (mk : Bool) (hrs : rs = cts (E ++ X)) (hn : n = E.length) (hn9 : n ≤ 9) (hE : ∀ e ∈ E, e.who < 256 ∧ e.up < 65536 ∧ e.down < 65536) {K : V → Hp → Prop}
    (hK : K (.a (.bool (rgt 0 E))) [.cells rs 104 mk]) :
    Go.Eng.Fn Tryd.prog ro 63 [.g [.int .u8 3, .bool false, .nils, .slc 0 0 n cap, .nils]] [.cells rs 104 mk] K := by
  have hp := cts_pl hrs
  refine Fn.weak ?_
  refine Fn.of 1 h63 rfl Tryd.func63 rfl (Nat.le_of_ble_eq_true rfl) ?_
  conv => whnf
  repeat' ((first | ((with_reducible refine y'r ?_ ?_); (· decide +kernel)) | ((with_reducible refine y'g ?_ ?_); (· exact ⟨_, rfl⟩)) | (with_reducible first | refine y'b ‹_› ?_ | refine y'n ‹_› ?_ | refine y'1 ‹_› ?_ | refine y'2 ‹_› ?_ | refine y'3 ?_ | refine y'4 ?_) | ((with_reducible refine y'n ?_ ?_); (· first | assumption | exact decide_eq_true (by omega) | decide +kernel)) | ((with_reducible refine y'b ?_ ?_); (· assumption)) | (with_reducible first | refine y'n (y'7 ‹_› ‹_›) ?_ | refine y'v (y'8 ‹_› ‹_›) (fun s hs => ?_) | refine y'5 ‹_› ?_ | refine y'6 ‹_› ?_) | ((with_reducible apply y'o); (· first | exact g0 | exact g1 | exact g2)) | ((with_reducible refine y'p ?_ ?_); (· rfl)) | ((with_reducible refine y'q ?_ ?_); (· rfl)) | fail) <;> (conv => whnf))
  refine loopx_of (fun m F H => ∃ (i : Nat) (z : Int), z = (i : Int) ∧ i ≤ n ∧ m = n - i ∧ rgt 0 E = rgt (whoAt E i) (E.drop i) ∧ F = [(1, .a (.ptr 1 0)), (3, .a (.int .i64 z))] ∧ H = [.cells rs 104 mk, .cells [.int .u8 3, .bool false, .nils, .slc 0 0 n cap, .nils] 57 false]) n ?_ ?_
  · exact Into.weak [0, 1] [(1, .a (.ptr 1 0)), (3, .a (.int .i64 0))] [.cells rs 104 mk, .cells [.int .u8 3, .bool false, .nils, .slc 0 0 n cap, .nils] 57 false] ⟨0, 0, rfl, Nat.zero_le _, rfl, rfl, rfl, rfl⟩ ⟨rfl, rfl, trivial⟩ ⟨ren_pl hp _ _ _, rfl, trivial⟩ (by simp [nodupb, baseb, Ob.okb, frmOk, V.okb, A.okb, hp.2] <;> decide)
  · rintro m F H ⟨i, z, hz, hi, rfl, hr, rfl, rfl⟩
    have hw : IntKind.i64.wrap (z + 1) = ((i + 1 : Nat) : Int) := by rw [i64w (by omega) (by omega)]; omega
    by_cases hin : i < n
    · have d1 : decide (z < (n : Int)) = true := decide_eq_true (by omega)
      obtain ⟨e, he⟩ : ∃ e, E[i]? = some e := ⟨_, List.getElem?_eq_getElem (by omega)⟩
      obtain ⟨b1, b2, b3⟩ := hE e (List.mem_of_getElem? he)
      have heX : (E ++ X)[i]? = some e := by rw [List.getElem?_append_left (by omega)]; exact he
      have hdr : E.drop i = e :: E.drop (i + 1) := by
        obtain ⟨h1, h2⟩ := List.getElem?_eq_some_iff.1 he
        rw [List.drop_eq_getElem_cons h1, h2]
      rw [hdr] at hr
      have hwn : whoAt E (i + 1) = e.who := by
        show (match E[i]? with | some e => e.who | none => 0) = _
        rw [he]
      conv => whnf
      repeat' ((first | ((with_reducible refine y'r ?_ ?_); (· decide +kernel)) | ((with_reducible refine y'g ?_ ?_); (· exact ⟨_, rfl⟩)) | (with_reducible first | refine y'b ‹_› ?_ | refine y'n ‹_› ?_ | refine y'1 ‹_› ?_ | refine y'2 ‹_› ?_ | refine y'3 ?_ | refine y'4 ?_) | ((with_reducible refine y'n ?_ ?_); (· first | assumption | exact decide_eq_true (by omega) | decide +kernel)) | ((with_reducible refine y'b ?_ ?_); (· assumption)) | (with_reducible first | refine y'n (y'7 ‹_› ‹_›) ?_ | refine y'v (y'8 ‹_› ‹_›) (fun s hs => ?_) | refine y'5 ‹_› ?_ | refine y'6 ‹_› ?_) | ((with_reducible apply y'o); (· first | exact g0 | exact g1 | exact g2)) | ((with_reducible refine y'p ?_ ?_); (· rfl)) | ((with_reducible refine y'q ?_ ?_); (· rfl)) | fail) <;> (conv => whnf))
      rw [hz]
      refine y'n (cts_ok hrs (by rw [List.length_append]; omega)) ?_
      conv => whnf
      refine y't (cts_pick hrs heX) ?_
      rw [← hz]
      obtain ⟨w, hw0⟩ : ∃ w : Int, w = (e.who : Int) := ⟨_, rfl⟩
      obtain ⟨u, hu0⟩ : ∃ u : Int, u = (e.up : Int) := ⟨_, rfl⟩
      obtain ⟨d, hd0⟩ : ∃ d : Int, d = (e.down : Int) := ⟨_, rfl⟩
      rw [← hw0, ← hu0, ← hd0]
      have hfalse : (e.who ≤ whoAt E i ∨ 5 < e.who ∨ (e.up = 0 ∧ e.down = 0)) → rgt 0 E = false := fun hh => by
        rw [hr]
        show (if _ then _ else _) = _
        rw [if_pos hh]
      have hgood : ¬ (e.who ≤ whoAt E i ∨ 5 < e.who ∨ (e.up = 0 ∧ e.down = 0)) → rgt 0 E = rgt e.who (E.drop (i + 1)) := fun hh => by
        rw [hr]
        show (if _ then _ else _) = _
        rw [if_neg hh]
      by_cases q1 : e.who < 1
      · have c1 : decide (w < 1) = true := decide_eq_true (by omega)
        have hk := hK
        rw [hfalse (.inl (by omega))] at hk
        conv => whnf
        repeat' ((first | ((with_reducible refine y'r ?_ ?_); (· decide +kernel)) | ((with_reducible refine y'g ?_ ?_); (· exact ⟨_, rfl⟩)) | (with_reducible first | refine y'b ‹_› ?_ | refine y'n ‹_› ?_ | refine y'1 ‹_› ?_ | refine y'2 ‹_› ?_ | refine y'3 ?_ | refine y'4 ?_) | ((with_reducible refine y'n ?_ ?_); (· first | assumption | exact decide_eq_true (by omega) | decide +kernel)) | ((with_reducible refine y'b ?_ ?_); (· assumption)) | (with_reducible first | refine y'n (y'7 ‹_› ‹_›) ?_ | refine y'v (y'8 ‹_› ‹_›) (fun s hs => ?_) | refine y'5 ‹_› ?_ | refine y'6 ‹_› ?_) | ((with_reducible apply y'o); (· first | exact g0 | exact g1 | exact g2)) | ((with_reducible refine y'p ?_ ?_); (· rfl)) | ((with_reducible refine y'q ?_ ?_); (· rfl)) | fail) <;> (conv => whnf))
        exact keepOf (v₀ := .a (.bool false)) [.cells rs 104 mk] [0] rfl ⟨ren_pl hp _ _ _, trivial⟩ (by simp [nodupb, baseb, Ob.okb, frmOk, V.okb, A.okb, hp.2] <;> decide) hk
      have c1 : decide (w < 1) = false := decide_eq_false (by omega)
      by_cases q2 : 5 < e.who
      · have c2 : decide (w > 5) = true := decide_eq_true (by omega)
        have hk := hK
        rw [hfalse (.inr (.inl q2))] at hk
        conv => whnf
        repeat' ((first | ((with_reducible refine y'r ?_ ?_); (· decide +kernel)) | ((with_reducible refine y'g ?_ ?_); (· exact ⟨_, rfl⟩)) | (with_reducible first | refine y'b ‹_› ?_ | refine y'n ‹_› ?_ | refine y'1 ‹_› ?_ | refine y'2 ‹_› ?_ | refine y'3 ?_ | refine y'4 ?_) | ((with_reducible refine y'n ?_ ?_); (· first | assumption | exact decide_eq_true (by omega) | decide +kernel)) | ((with_reducible refine y'b ?_ ?_); (· assumption)) | (with_reducible first | refine y'n (y'7 ‹_› ‹_›) ?_ | refine y'v (y'8 ‹_› ‹_›) (fun s hs => ?_) | refine y'5 ‹_› ?_ | refine y'6 ‹_› ?_) | ((with_reducible apply y'o); (· first | exact g0 | exact g1 | exact g2)) | ((with_reducible refine y'p ?_ ?_); (· rfl)) | ((with_reducible refine y'q ?_ ?_); (· rfl)) | fail) <;> (conv => whnf))
        exact keepOf (v₀ := .a (.bool false)) [.cells rs 104 mk] [0] rfl ⟨ren_pl hp _ _ _, trivial⟩ (by simp [nodupb, baseb, Ob.okb, frmOk, V.okb, A.okb, hp.2] <;> decide) hk
      have c2 : decide (w > 5) = false := decide_eq_false (by omega)
      by_cases q3 : e.up = 0 ∧ e.down = 0
      · have c3 : (u == 0) = true := by simp; omega
        have c4 : (d == 0) = true := by simp; omega
        have hk := hK
        rw [hfalse (.inr (.inr q3))] at hk
        conv => whnf
        repeat' ((first | ((with_reducible refine y'r ?_ ?_); (· decide +kernel)) | ((with_reducible refine y'g ?_ ?_); (· exact ⟨_, rfl⟩)) | (with_reducible first | refine y'b ‹_› ?_ | refine y'n ‹_› ?_ | refine y'1 ‹_› ?_ | refine y'2 ‹_› ?_ | refine y'3 ?_ | refine y'4 ?_) | ((with_reducible refine y'n ?_ ?_); (· first | assumption | exact decide_eq_true (by omega) | decide +kernel)) | ((with_reducible refine y'b ?_ ?_); (· assumption)) | (with_reducible first | refine y'n (y'7 ‹_› ‹_›) ?_ | refine y'v (y'8 ‹_› ‹_›) (fun s hs => ?_) | refine y'5 ‹_› ?_ | refine y'6 ‹_› ?_) | ((with_reducible apply y'o); (· first | exact g0 | exact g1 | exact g2)) | ((with_reducible refine y'p ?_ ?_); (· rfl)) | ((with_reducible refine y'q ?_ ?_); (· rfl)) | fail) <;> (conv => whnf))
        exact keepOf (v₀ := .a (.bool false)) [.cells rs 104 mk] [0] rfl ⟨ren_pl hp _ _ _, trivial⟩ (by simp [nodupb, baseb, Ob.okb, frmOk, V.okb, A.okb, hp.2] <;> decide) hk
      by_cases q4 : i = 0
      · have c5 : decide (z > 0) = false := decide_eq_false (by omega)
        have hng : ¬ (e.who ≤ whoAt E i ∨ 5 < e.who ∨ (e.up = 0 ∧ e.down = 0)) := by
          rw [q4]
          show ¬ (e.who ≤ 0 ∨ _ ∨ _)
          omega
        by_cases q5 : e.up = 0
        · have c3 : (u == 0) = true := by simp; omega
          have c4 : (d == 0) = false := by simp; omega
          conv => whnf
          repeat' ((first | ((with_reducible refine y'r ?_ ?_); (· decide +kernel)) | ((with_reducible refine y'g ?_ ?_); (· exact ⟨_, rfl⟩)) | (with_reducible first | refine y'b ‹_› ?_ | refine y'n ‹_› ?_ | refine y'1 ‹_› ?_ | refine y'2 ‹_› ?_ | refine y'3 ?_ | refine y'4 ?_) | ((with_reducible refine y'n ?_ ?_); (· first | assumption | exact decide_eq_true (by omega) | decide +kernel)) | ((with_reducible refine y'b ?_ ?_); (· assumption)) | (with_reducible first | refine y'n (y'7 ‹_› ‹_›) ?_ | refine y'v (y'8 ‹_› ‹_›) (fun s hs => ?_) | refine y'5 ‹_› ?_ | refine y'6 ‹_› ?_) | ((with_reducible apply y'o); (· first | exact g0 | exact g1 | exact g2)) | ((with_reducible refine y'p ?_ ?_); (· rfl)) | ((with_reducible refine y'q ?_ ?_); (· rfl)) | fail) <;> (conv => whnf))
          exact ⟨n - (i + 1), by omega, Into.weak [0, 1] [(1, .a (.ptr 1 0)), (3, .a (.int .i64 ((i + 1 : Nat) : Int)))] [.cells rs 104 mk, .cells [.int .u8 3, .bool false, .nils, .slc 0 0 n cap, .nils] 57 false] ⟨i + 1, _, rfl, by omega, rfl, by rw [hwn]; exact hgood hng, rfl, rfl⟩ ⟨rfl, congrArg (fun z => some (V.a (.int .i64 z))) hw, trivial⟩ ⟨ren_pl hp _ _ _, rfl, trivial⟩ (by simp [nodupb, baseb, Ob.okb, frmOk, V.okb, A.okb, hp.2] <;> decide)⟩
        · have c3 : (u == 0) = false := by simp; omega
          conv => whnf
          repeat' ((first | ((with_reducible refine y'r ?_ ?_); (· decide +kernel)) | ((with_reducible refine y'g ?_ ?_); (· exact ⟨_, rfl⟩)) | (with_reducible first | refine y'b ‹_› ?_ | refine y'n ‹_› ?_ | refine y'1 ‹_› ?_ | refine y'2 ‹_› ?_ | refine y'3 ?_ | refine y'4 ?_) | ((with_reducible refine y'n ?_ ?_); (· first | assumption | exact decide_eq_true (by omega) | decide +kernel)) | ((with_reducible refine y'b ?_ ?_); (· assumption)) | (with_reducible first | refine y'n (y'7 ‹_› ‹_›) ?_ | refine y'v (y'8 ‹_› ‹_›) (fun s hs => ?_) | refine y'5 ‹_› ?_ | refine y'6 ‹_› ?_) | ((with_reducible apply y'o); (· first | exact g0 | exact g1 | exact g2)) | ((with_reducible refine y'p ?_ ?_); (· rfl)) | ((with_reducible refine y'q ?_ ?_); (· rfl)) | fail) <;> (conv => whnf))
          exact ⟨n - (i + 1), by omega, Into.weak [0, 1] [(1, .a (.ptr 1 0)), (3, .a (.int .i64 ((i + 1 : Nat) : Int)))] [.cells rs 104 mk, .cells [.int .u8 3, .bool false, .nils, .slc 0 0 n cap, .nils] 57 false] ⟨i + 1, _, rfl, by omega, rfl, by rw [hwn]; exact hgood hng, rfl, rfl⟩ ⟨rfl, congrArg (fun z => some (V.a (.int .i64 z))) hw, trivial⟩ ⟨ren_pl hp _ _ _, rfl, trivial⟩ (by simp [nodupb, baseb, Ob.okb, frmOk, V.okb, A.okb, hp.2] <;> decide)⟩
      have c5 : decide (z > 0) = true := decide_eq_true (by omega)
      obtain ⟨e', he'⟩ : ∃ e', E[i - 1]? = some e' := ⟨_, List.getElem?_eq_getElem (by omega)⟩
      have hwi : whoAt E i = e'.who := by
        obtain ⟨j, rfl⟩ : ∃ j, i = j + 1 := ⟨i - 1, by omega⟩
        show (match E[j]? with | some e => e.who | none => 0) = _
        rw [show E[j]? = some e' from he']
      obtain ⟨w', hw'0⟩ : ∃ w' : Int, w' = (e'.who : Int) := ⟨_, rfl⟩
      have heX' : (E ++ X)[i - 1]? = some e' := by rw [List.getElem?_append_left (by omega)]; exact he'
      have hzm : IntKind.i64.wrap (z - 1) = ((i - 1 : Nat) : Int) := by rw [i64w (by omega) (by omega)]; omega
      have hg : rs[0 + (IntKind.i64.wrap (z - 1)).toNat * Tryd.prog.types[104].size + 0]? = some (.int .u8 w') := by
        rw [hzm, Int.toNat_natCast, s68, Nat.zero_add, Nat.add_zero, hw'0]
        exact cts_get0 hrs heX'
      by_cases q5 : e.up = 0
      · have c3 : (u == 0) = true := by simp; omega
        have c4 : (d == 0) = false := by simp; omega
        conv => whnf
        repeat' ((first | ((with_reducible refine y'r ?_ ?_); (· decide +kernel)) | ((with_reducible refine y'g ?_ ?_); (· exact ⟨_, rfl⟩)) | (with_reducible first | refine y'b ‹_› ?_ | refine y'n ‹_› ?_ | refine y'1 ‹_› ?_ | refine y'2 ‹_› ?_ | refine y'3 ?_ | refine y'4 ?_) | ((with_reducible refine y'n ?_ ?_); (· first | assumption | exact decide_eq_true (by omega) | decide +kernel)) | ((with_reducible refine y'b ?_ ?_); (· assumption)) | (with_reducible first | refine y'n (y'7 ‹_› ‹_›) ?_ | refine y'v (y'8 ‹_› ‹_›) (fun s hs => ?_) | refine y'5 ‹_› ?_ | refine y'6 ‹_› ?_) | ((with_reducible apply y'o); (· first | exact g0 | exact g1 | exact g2)) | ((with_reducible refine y'p ?_ ?_); (· rfl)) | ((with_reducible refine y'q ?_ ?_); (· rfl)) | fail) <;> (conv => whnf))
        refine y'o (show rs[0 + (IntKind.i64.wrap (z - 1)).toNat * Tryd.prog.types[104].size + 0]? = some (.int .u8 w') from hg) ?_
        by_cases q6 : e.who ≤ e'.who
        · have c6 : decide (w ≤ w') = true := decide_eq_true (by omega)
          have hk := hK
          rw [hfalse (.inl (by rw [hwi]; exact q6))] at hk
          conv => whnf
          repeat' ((first | ((with_reducible refine y'r ?_ ?_); (· decide +kernel)) | ((with_reducible refine y'g ?_ ?_); (· exact ⟨_, rfl⟩)) | (with_reducible first | refine y'b ‹_› ?_ | refine y'n ‹_› ?_ | refine y'1 ‹_› ?_ | refine y'2 ‹_› ?_ | refine y'3 ?_ | refine y'4 ?_) | ((with_reducible refine y'n ?_ ?_); (· first | assumption | exact decide_eq_true (by omega) | decide +kernel)) | ((with_reducible refine y'b ?_ ?_); (· assumption)) | (with_reducible first | refine y'n (y'7 ‹_› ‹_›) ?_ | refine y'v (y'8 ‹_› ‹_›) (fun s hs => ?_) | refine y'5 ‹_› ?_ | refine y'6 ‹_› ?_) | ((with_reducible apply y'o); (· first | exact g0 | exact g1 | exact g2)) | ((with_reducible refine y'p ?_ ?_); (· rfl)) | ((with_reducible refine y'q ?_ ?_); (· rfl)) | fail) <;> (conv => whnf))
          exact keepOf (v₀ := .a (.bool false)) [.cells rs 104 mk] [0] rfl ⟨ren_pl hp _ _ _, trivial⟩ (by simp [nodupb, baseb, Ob.okb, frmOk, V.okb, A.okb, hp.2] <;> decide) hk
        · have c6 : decide (w ≤ w') = false := decide_eq_false (by omega)
          conv => whnf
          repeat' ((first | ((with_reducible refine y'r ?_ ?_); (· decide +kernel)) | ((with_reducible refine y'g ?_ ?_); (· exact ⟨_, rfl⟩)) | (with_reducible first | refine y'b ‹_› ?_ | refine y'n ‹_› ?_ | refine y'1 ‹_› ?_ | refine y'2 ‹_› ?_ | refine y'3 ?_ | refine y'4 ?_) | ((with_reducible refine y'n ?_ ?_); (· first | assumption | exact decide_eq_true (by omega) | decide +kernel)) | ((with_reducible refine y'b ?_ ?_); (· assumption)) | (with_reducible first | refine y'n (y'7 ‹_› ‹_›) ?_ | refine y'v (y'8 ‹_› ‹_›) (fun s hs => ?_) | refine y'5 ‹_› ?_ | refine y'6 ‹_› ?_) | ((with_reducible apply y'o); (· first | exact g0 | exact g1 | exact g2)) | ((with_reducible refine y'p ?_ ?_); (· rfl)) | ((with_reducible refine y'q ?_ ?_); (· rfl)) | fail) <;> (conv => whnf))
          exact ⟨n - (i + 1), by omega, Into.weak [0, 1] [(1, .a (.ptr 1 0)), (3, .a (.int .i64 ((i + 1 : Nat) : Int)))] [.cells rs 104 mk, .cells [.int .u8 3, .bool false, .nils, .slc 0 0 n cap, .nils] 57 false] ⟨i + 1, _, rfl, by omega, rfl, by rw [hwn]; exact hgood (by rw [hwi]; omega), rfl, rfl⟩ ⟨rfl, congrArg (fun z => some (V.a (.int .i64 z))) hw, trivial⟩ ⟨ren_pl hp _ _ _, rfl, trivial⟩ (by simp [nodupb, baseb, Ob.okb, frmOk, V.okb, A.okb, hp.2] <;> decide)⟩
      · have c3 : (u == 0) = false := by simp; omega
        conv => whnf
        repeat' ((first | ((with_reducible refine y'r ?_ ?_); (· decide +kernel)) | ((with_reducible refine y'g ?_ ?_); (· exact ⟨_, rfl⟩)) | (with_reducible first | refine y'b ‹_› ?_ | refine y'n ‹_› ?_ | refine y'1 ‹_› ?_ | refine y'2 ‹_› ?_ | refine y'3 ?_ | refine y'4 ?_) | ((with_reducible refine y'n ?_ ?_); (· first | assumption | exact decide_eq_true (by omega) | decide +kernel)) | ((with_reducible refine y'b ?_ ?_); (· assumption)) | (with_reducible first | refine y'n (y'7 ‹_› ‹_›) ?_ | refine y'v (y'8 ‹_› ‹_›) (fun s hs => ?_) | refine y'5 ‹_› ?_ | refine y'6 ‹_› ?_) | ((with_reducible apply y'o); (· first | exact g0 | exact g1 | exact g2)) | ((with_reducible refine y'p ?_ ?_); (· rfl)) | ((with_reducible refine y'q ?_ ?_); (· rfl)) | fail) <;> (conv => whnf))
        refine y'o (show rs[0 + (IntKind.i64.wrap (z - 1)).toNat * Tryd.prog.types[104].size + 0]? = some (.int .u8 w') from hg) ?_
        by_cases q6 : e.who ≤ e'.who
        · have c6 : decide (w ≤ w') = true := decide_eq_true (by omega)
          have hk := hK
          rw [hfalse (.inl (by rw [hwi]; exact q6))] at hk
          conv => whnf
          repeat' ((first | ((with_reducible refine y'r ?_ ?_); (· decide +kernel)) | ((with_reducible refine y'g ?_ ?_); (· exact ⟨_, rfl⟩)) | (with_reducible first | refine y'b ‹_› ?_ | refine y'n ‹_› ?_ | refine y'1 ‹_› ?_ | refine y'2 ‹_› ?_ | refine y'3 ?_ | refine y'4 ?_) | ((with_reducible refine y'n ?_ ?_); (· first | assumption | exact decide_eq_true (by omega) | decide +kernel)) | ((with_reducible refine y'b ?_ ?_); (· assumption)) | (with_reducible first | refine y'n (y'7 ‹_› ‹_›) ?_ | refine y'v (y'8 ‹_› ‹_›) (fun s hs => ?_) | refine y'5 ‹_› ?_ | refine y'6 ‹_› ?_) | ((with_reducible apply y'o); (· first | exact g0 | exact g1 | exact g2)) | ((with_reducible refine y'p ?_ ?_); (· rfl)) | ((with_reducible refine y'q ?_ ?_); (· rfl)) | fail) <;> (conv => whnf))
          exact keepOf (v₀ := .a (.bool false)) [.cells rs 104 mk] [0] rfl ⟨ren_pl hp _ _ _, trivial⟩ (by simp [nodupb, baseb, Ob.okb, frmOk, V.okb, A.okb, hp.2] <;> decide) hk
        · have c6 : decide (w ≤ w') = false := decide_eq_false (by omega)
          conv => whnf
          repeat' ((first | ((with_reducible refine y'r ?_ ?_); (· decide +kernel)) | ((with_reducible refine y'g ?_ ?_); (· exact ⟨_, rfl⟩)) | (with_reducible first | refine y'b ‹_› ?_ | refine y'n ‹_› ?_ | refine y'1 ‹_› ?_ | refine y'2 ‹_› ?_ | refine y'3 ?_ | refine y'4 ?_) | ((with_reducible refine y'n ?_ ?_); (· first | assumption | exact decide_eq_true (by omega) | decide +kernel)) | ((with_reducible refine y'b ?_ ?_); (· assumption)) | (with_reducible first | refine y'n (y'7 ‹_› ‹_›) ?_ | refine y'v (y'8 ‹_› ‹_›) (fun s hs => ?_) | refine y'5 ‹_› ?_ | refine y'6 ‹_› ?_) | ((with_reducible apply y'o); (· first | exact g0 | exact g1 | exact g2)) | ((with_reducible refine y'p ?_ ?_); (· rfl)) | ((with_reducible refine y'q ?_ ?_); (· rfl)) | fail) <;> (conv => whnf))
          exact ⟨n - (i + 1), by omega, Into.weak [0, 1] [(1, .a (.ptr 1 0)), (3, .a (.int .i64 ((i + 1 : Nat) : Int)))] [.cells rs 104 mk, .cells [.int .u8 3, .bool false, .nils, .slc 0 0 n cap, .nils] 57 false] ⟨i + 1, _, rfl, by omega, rfl, by rw [hwn]; exact hgood (by rw [hwi]; omega), rfl, rfl⟩ ⟨rfl, congrArg (fun z => some (V.a (.int .i64 z))) hw, trivial⟩ ⟨ren_pl hp _ _ _, rfl, trivial⟩ (by simp [nodupb, baseb, Ob.okb, frmOk, V.okb, A.okb, hp.2] <;> decide)⟩
    · have d1 : decide (z < (n : Int)) = false := decide_eq_false (by omega)
      rw [show i = n by omega, List.drop_eq_nil_of_le (by omega)] at hr
      have hk := hK
      rw [hr] at hk
      conv => whnf
      repeat' ((first | ((with_reducible refine y'r ?_ ?_); (· decide +kernel)) | ((with_reducible refine y'g ?_ ?_); (· exact ⟨_, rfl⟩)) | (with_reducible first | refine y'b ‹_› ?_ | refine y'n ‹_› ?_ | refine y'1 ‹_› ?_ | refine y'2 ‹_› ?_ | refine y'3 ?_ | refine y'4 ?_) | ((with_reducible refine y'n ?_ ?_); (· first | assumption | exact decide_eq_true (by omega) | decide +kernel)) | ((with_reducible refine y'b ?_ ?_); (· assumption)) | (with_reducible first | refine y'n (y'7 ‹_› ‹_›) ?_ | refine y'v (y'8 ‹_› ‹_›) (fun s hs => ?_) | refine y'5 ‹_› ?_ | refine y'6 ‹_› ?_) | ((with_reducible apply y'o); (· first | exact g0 | exact g1 | exact g2)) | ((with_reducible refine y'p ?_ ?_); (· rfl)) | ((with_reducible refine y'q ?_ ?_); (· rfl)) | fail) <;> (conv => whnf))
      refine loopx_iter 1 ?_
      conv => whnf
      repeat' ((first | ((with_reducible refine y'r ?_ ?_); (· decide +kernel)) | ((with_reducible refine y'g ?_ ?_); (· exact ⟨_, rfl⟩)) | (with_reducible first | refine y'b ‹_› ?_ | refine y'n ‹_› ?_ | refine y'1 ‹_› ?_ | refine y'2 ‹_› ?_ | refine y'3 ?_ | refine y'4 ?_) | ((with_reducible refine y'n ?_ ?_); (· first | assumption | exact decide_eq_true (by omega) | decide +kernel)) | ((with_reducible refine y'b ?_ ?_); (· assumption)) | (with_reducible first | refine y'n (y'7 ‹_› ‹_›) ?_ | refine y'v (y'8 ‹_› ‹_›) (fun s hs => ?_) | refine y'5 ‹_› ?_ | refine y'6 ‹_› ?_) | ((with_reducible apply y'o); (· first | exact g0 | exact g1 | exact g2)) | ((with_reducible refine y'p ?_ ?_); (· rfl)) | ((with_reducible refine y'q ?_ ?_); (· rfl)) | fail) <;> (conv => whnf))
      exact keepOf (v₀ := .a (.bool true)) [.cells rs 104 mk] [0] rfl ⟨ren_pl hp _ _ _, trivial⟩ (by simp [nodupb, baseb, Ob.okb, frmOk, V.okb, A.okb, hp.2] <;> decide) hk
end
end Go.Proofs.YtimddbgnaeeggaaDoor.KD
