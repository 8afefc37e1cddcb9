import Derived.Test.YtimddbgnaeeggaaDoorRP
namespace Go.Proofs.YtimddbgnaeeggaaDoor.KD
open Go.Eng
set_option maxRecDepth 100000
/-! Rows of floats. -/
def flF (V : List Nat) : List UInt8 := V.flatMap fun v => be 8 (fbits v)
theorem flF_len (V : List Nat) : (flF V).length = V.length * 8 := by
  unfold flF
  induction V with
  | nil => rfl
  | cons v V ih => rw [List.flatMap_cons, List.length_append, be_length, ih, List.length_cons]; omega
theorem flF_snoc (V : List Nat) (v : Nat) : flF (V ++ [v]) = flF V ++ be 8 (fbits v) := by unfold flF; simp
theorem flat_len4 (L : List Nat) : (flat L).length ≤ L.length * 4 := by
  induction L with
  | nil => rw [flat_nil]; exact Nat.le_refl 0
  | cons r L ih => rw [flat_cons, List.length_append, List.length_cons]; have := enc_le4 r; omega
def onB (kb : UInt8) (on : Bool) : List UInt8 := if kb = 1 then [if on then 1 else 0] else []
theorem onB_len (kb : UInt8) (on : Bool) : (onB kb on).length ≤ 1 := by unfold onB; split <;> simp
section
variable {ro : Addr → A → Prop}
set_option maxHeartbeats 4000000 in
theorem toldX (kb : UInt8) (on : Bool) (vs Y L X : List Nat) (fs rs : List A) (n1 c1 n cap : Nat) (mk1 mk : Bool) (hfs : fs = f64s (vs ++ Y)) (hn1 : n1 = vs.length) (hn19 : n1 ≤ 9) (hV : ∀ v ∈ vs, v < 18446744073709551616)
    (hrs : rs = i32s (L ++ X)) (hn : n = L.length) (hn9 : n ≤ 1000) (hR : ∀ r ∈ L, r < 1114112) {K : V → Hp → Prop}
    (hK : K (.a (.str (bs ([kb] ++ onB kb on ++ flF vs ++ flat L)))) [.cells fs 23 mk1, .cells rs 21 mk]) :
    Go.Eng.Fn Tryd.prog ro 56 [.g [.int .u8 (kb.toNat : Int), .bool on, .slc 0 0 n1 c1, .nils, .slc 1 0 n cap]] [.cells fs 23 mk1, .cells rs 21 mk] K := by
  have hp := i32s_pl hrs
  have hfp := f64s_pl hfs
  obtain ⟨z, hz⟩ : ∃ z : Int, z = (kb.toNat : Int) := ⟨_, rfl⟩
  have hzl : 0 ≤ z ∧ z < 256 := by have := kb.toNat_lt; omega
  rw [← hz]
  have hob := onB_len kb on
  refine Fn.weak ?_
  refine Fn.of 2 h56 rfl Tryd.func56 rfl (Nat.le_of_ble_eq_true rfl) ?_
  have hks : ({ data := #[UInt8.ofNat z.toNat] } : ByteArray) = bs [kb] := by
    rw [hz, Int.toNat_natCast]
    simp [bs]
  by_cases hk1 : kb = 1
  · have hz1 : (z == 1) = true := by rw [hz, hk1]; rfl
    cases on with
    | true =>
      have h0 : ({ data := #[UInt8.ofNat z.toNat] } : ByteArray) ++ ({ data := #[1] } : ByteArray) = bs ([kb] ++ onB kb true) := by
        rw [hks, show ({ data := #[1] } : ByteArray) = bs [1] from rfl, bs_append]; unfold onB; rw [if_pos hk1]; rfl
      conv => whnf
      repeat' ((first | (with_reducible refine y'b ‹_› ?_) | (with_reducible refine y'5 ‹_› ?_) | fail) <;> (conv => whnf))
      rw [h0]
      refine loopx_of (fun m F H => ∃ (i : Nat) (t : ByteArray), i ≤ n1 ∧ m = n1 - i ∧ t = bs ([kb] ++ onB kb true ++ flF (vs.take i)) ∧ F = [(1, .a (.ptr 2 0)), (3, .a (.str t)), (4, .a (.int .i64 i))] ∧ H = [.cells fs 23 mk1, .cells rs 21 mk, .cells [.int .u8 z, .bool true, .slc 0 0 n1 c1, .nils, .slc 1 0 n cap] 57 false]) n1 ?_ ?_
      · exact Into.weak [0, 1, 2] [(1, .a (.ptr 2 0)), (3, .a (.str (bs ([kb] ++ onB kb true)))), (4, .a (.int .i64 (0 : Nat)))] [.cells fs 23 mk1, .cells rs 21 mk, .cells [.int .u8 z, .bool true, .slc 0 0 n1 c1, .nils, .slc 1 0 n cap] 57 false] ⟨0, _, Nat.zero_le _, rfl, by rw [List.take_zero]; unfold flF; simp, rfl, rfl⟩ ⟨rfl, rfl, rfl, trivial⟩ ⟨ren_pl hfp _ _ _, ren_pl hp _ _ _, rfl, trivial⟩ (by simp [nodupb, baseb, Ob.okb, frmOk, V.okb, A.okb, hp.2, hfp.2] <;> decide)
      · rintro m F H ⟨i, t, hi, rfl, ht, rfl, rfl⟩
        have hw : IntKind.i64.wrap (↑i + 1) = ((i + 1 : Nat) : Int) := by rw [i64w (by omega) (by omega)]; rfl
        have htz : t.size ≤ 100 := by
          rw [ht, bs_size, List.length_append, List.length_append, flF_len, List.length_take, List.length_singleton]
          have := onB_len kb true
          omega
        by_cases hin : i < n1
        · have d1 : decide ((i : Int) < (n1 : Int)) = true := decide_eq_true (by omega)
          have d2 : decide (0 ≤ (i : Int) ∧ (i : Int) < (n1 : Int)) = true := decide_eq_true (by omega)
          obtain ⟨e, he⟩ : ∃ e, vs[i]? = some e := ⟨_, List.getElem?_eq_getElem (by omega)⟩
          have g0 : fs[0 + (i : Int).toNat * Tryd.prog.types[23].size]? = some (.flt .f64 e) := by
            rw [Int.toNat_natCast, s23, Nat.zero_add, Nat.mul_one]
            exact f64s_get hfs (by rw [List.getElem?_append_left (by omega)]; exact he)
          have hts : vs.take (i + 1) = vs.take i ++ [e] := by rw [List.take_add_one, he]; rfl
          have hnx : t ++ bs (be 8 (fbits e)) = bs ([kb] ++ onB kb true ++ flF (vs.take (i + 1))) := by rw [ht, bs_append, hts, flF_snoc, List.append_assoc]
          conv => whnf
          repeat' ((first | (with_reducible first | refine y'b ‹_› ?_ | refine y'3 ?_) | ((with_reducible apply y'o); (· first | exact g0 | exact g1)) | fail) <;> (conv => whnf))
          refine Fn.frame [] (by rfl) (by exact trivial) (by rfl) (refFloat e (hV e (List.mem_of_getElem? he)) ?_)
          conv => whnf
          repeat' ((first | (with_reducible refine y'5 ‹_› ?_) | ((with_reducible refine y'n ?_ ?_); (· refine decide_eq_true ?_; first | (rw [bs_size, be_length]; omega) | (rw [bs_size]; omega) | (rw [lit1, lit1]; omega))) | fail) <;> (conv => whnf))
          exact ⟨n1 - (i + 1), by omega, Into.weak [0, 1, 2] [(1, .a (.ptr 2 0)), (3, .a (.str (t ++ bs (be 8 (fbits e))))), (4, .a (.int .i64 ((i + 1 : Nat) : Int)))] [.cells fs 23 mk1, .cells rs 21 mk, .cells [.int .u8 z, .bool true, .slc 0 0 n1 c1, .nils, .slc 1 0 n cap] 57 false] ⟨i + 1, _, by omega, rfl, hnx, rfl, rfl⟩ ⟨rfl, rfl, congrArg (fun z => some (V.a (.int .i64 z))) hw, trivial⟩ ⟨ren_pl hfp _ _ _, ren_pl hp _ _ _, rfl, trivial⟩ (by simp [nodupb, baseb, Ob.okb, frmOk, V.okb, A.okb, hp.2, hfp.2] <;> decide)⟩
        · have d1 : decide ((i : Int) < (n1 : Int)) = false := decide_eq_false (by omega)
          rw [show i = n1 by omega, List.take_of_length_le (by omega)] at ht
          obtain ⟨P, hP⟩ : ∃ P, P = [kb] ++ onB kb true ++ flF vs := ⟨_, rfl⟩
          rw [← hP] at ht hK
          have hPl : P.length ≤ 100 := by rw [← bs_size, ← ht]; exact htz
          conv => whnf
          repeat' ((first | (with_reducible refine y'b ‹_› ?_) | fail) <;> (conv => whnf))
          refine loopx_iter 1 ?_
          conv => whnf
          skip
          clear htz hw
          refine loopx_of (fun m F H => ∃ (i : Nat) (t : ByteArray), i ≤ n ∧ m = n - i ∧ t = bs (P ++ flat (L.take i)) ∧ F = [(1, .a (.ptr 2 0)), (3, .a (.str t)), (7, .a (.int .i64 i))] ∧ H = [.cells fs 23 mk1, .cells rs 21 mk, .cells [.int .u8 z, .bool true, .slc 0 0 n1 c1, .nils, .slc 1 0 n cap] 57 false]) n ?_ ?_
          · exact Into.weak [0, 1, 2] [(1, .a (.ptr 2 0)), (3, .a (.str t)), (7, .a (.int .i64 (0 : Nat)))] [.cells fs 23 mk1, .cells rs 21 mk, .cells [.int .u8 z, .bool true, .slc 0 0 n1 c1, .nils, .slc 1 0 n cap] 57 false] ⟨0, _, Nat.zero_le _, rfl, by rw [List.take_zero, flat_nil, List.append_nil]; exact ht, rfl, rfl⟩ ⟨rfl, rfl, rfl, trivial⟩ ⟨ren_pl hfp _ _ _, ren_pl hp _ _ _, rfl, trivial⟩ (by simp [nodupb, baseb, Ob.okb, frmOk, V.okb, A.okb, hp.2, hfp.2] <;> decide)
          · clear ht t d1 hin hi i
            rintro m F H ⟨i, t, hi, rfl, ht, rfl, rfl⟩
            have hw : IntKind.i64.wrap (↑i + 1) = ((i + 1 : Nat) : Int) := by rw [i64w (by omega) (by omega)]; rfl
            have htz : t.size ≤ 100000 := by
              rw [ht, bs_size, List.length_append]
              have := flat_len4 (L.take i)
              rw [List.length_take] at this
              omega
            by_cases hin : i < n
            · have d1 : decide ((i : Int) < (n : Int)) = true := decide_eq_true (by omega)
              have d2 : decide (0 ≤ (i : Int) ∧ (i : Int) < (n : Int)) = true := decide_eq_true (by omega)
              obtain ⟨e, he⟩ : ∃ e, L[i]? = some e := ⟨_, List.getElem?_eq_getElem (by omega)⟩
              have g0 : rs[0 + (i : Int).toNat * Tryd.prog.types[21].size]? = some (.int .i32 (e : Int)) := by
                rw [Int.toNat_natCast, s21, Nat.zero_add, Nat.mul_one]
                exact i32s_get hrs (by rw [List.getElem?_append_left (by omega)]; exact he)
              have hts : L.take (i + 1) = L.take i ++ [e] := by rw [List.take_add_one, he]; rfl
              have hnx : t ++ bs (enc e) = bs (P ++ flat (L.take (i + 1))) := by rw [ht, bs_append, hts, flat_append, flat_one, List.append_assoc]
              have he4 := enc_le4 e
              conv => whnf
              repeat' ((first | (with_reducible first | refine y'b ‹_› ?_ | refine y'3 ?_) | ((with_reducible apply y'o); (· first | exact g0 | exact g1)) | fail) <;> (conv => whnf))
              refine Fn.frame [] (by rfl) (by exact trivial) (by rfl) (coded1 e (hR e (List.mem_of_getElem? he)) ?_)
              conv => whnf
              repeat' ((first | (with_reducible refine y'5 ‹_› ?_) | ((with_reducible refine y'n ?_ ?_); (· refine decide_eq_true ?_; first | (rw [bs_size, be_length]; omega) | (rw [bs_size]; omega) | (rw [lit1, lit1]; omega))) | fail) <;> (conv => whnf))
              exact ⟨n - (i + 1), by omega, Into.weak [0, 1, 2] [(1, .a (.ptr 2 0)), (3, .a (.str (t ++ bs (enc e)))), (7, .a (.int .i64 ((i + 1 : Nat) : Int)))] [.cells fs 23 mk1, .cells rs 21 mk, .cells [.int .u8 z, .bool true, .slc 0 0 n1 c1, .nils, .slc 1 0 n cap] 57 false] ⟨i + 1, _, by omega, rfl, hnx, rfl, rfl⟩ ⟨rfl, rfl, congrArg (fun z => some (V.a (.int .i64 z))) hw, trivial⟩ ⟨ren_pl hfp _ _ _, ren_pl hp _ _ _, rfl, trivial⟩ (by simp [nodupb, baseb, Ob.okb, frmOk, V.okb, A.okb, hp.2, hfp.2] <;> decide)⟩
            · have d1 : decide ((i : Int) < (n : Int)) = false := decide_eq_false (by omega)
              rw [show i = n by omega, List.take_of_length_le (by omega)] at ht
              conv => whnf
              repeat' ((first | (with_reducible refine y'b ‹_› ?_) | fail) <;> (conv => whnf))
              rw [ht]
              exact keepOf (v₀ := .a (.str (bs (P ++ flat L)))) [.cells fs 23 mk1, .cells rs 21 mk] [0, 1] rfl ⟨ren_pl hfp _ _ _, ren_pl hp _ _ _, trivial⟩ (by simp [nodupb, baseb, Ob.okb, frmOk, V.okb, A.okb, hp.2, hfp.2] <;> decide) hK
    | false =>
      have h0 : ({ data := #[UInt8.ofNat z.toNat] } : ByteArray) ++ ({ data := #[0] } : ByteArray) = bs ([kb] ++ onB kb false) := by
        rw [hks, show ({ data := #[0] } : ByteArray) = bs [0] from rfl, bs_append]; unfold onB; rw [if_pos hk1]; rfl
      conv => whnf
      repeat' ((first | (with_reducible refine y'b ‹_› ?_) | (with_reducible refine y'5 ‹_› ?_) | fail) <;> (conv => whnf))
      rw [h0]
      refine loopx_of (fun m F H => ∃ (i : Nat) (t : ByteArray), i ≤ n1 ∧ m = n1 - i ∧ t = bs ([kb] ++ onB kb false ++ flF (vs.take i)) ∧ F = [(1, .a (.ptr 2 0)), (3, .a (.str t)), (4, .a (.int .i64 i))] ∧ H = [.cells fs 23 mk1, .cells rs 21 mk, .cells [.int .u8 z, .bool false, .slc 0 0 n1 c1, .nils, .slc 1 0 n cap] 57 false]) n1 ?_ ?_
      · exact Into.weak [0, 1, 2] [(1, .a (.ptr 2 0)), (3, .a (.str (bs ([kb] ++ onB kb false)))), (4, .a (.int .i64 (0 : Nat)))] [.cells fs 23 mk1, .cells rs 21 mk, .cells [.int .u8 z, .bool false, .slc 0 0 n1 c1, .nils, .slc 1 0 n cap] 57 false] ⟨0, _, Nat.zero_le _, rfl, by rw [List.take_zero]; unfold flF; simp, rfl, rfl⟩ ⟨rfl, rfl, rfl, trivial⟩ ⟨ren_pl hfp _ _ _, ren_pl hp _ _ _, rfl, trivial⟩ (by simp [nodupb, baseb, Ob.okb, frmOk, V.okb, A.okb, hp.2, hfp.2] <;> decide)
      · rintro m F H ⟨i, t, hi, rfl, ht, rfl, rfl⟩
        have hw : IntKind.i64.wrap (↑i + 1) = ((i + 1 : Nat) : Int) := by rw [i64w (by omega) (by omega)]; rfl
        have htz : t.size ≤ 100 := by
          rw [ht, bs_size, List.length_append, List.length_append, flF_len, List.length_take, List.length_singleton]
          have := onB_len kb false
          omega
        by_cases hin : i < n1
        · have d1 : decide ((i : Int) < (n1 : Int)) = true := decide_eq_true (by omega)
          have d2 : decide (0 ≤ (i : Int) ∧ (i : Int) < (n1 : Int)) = true := decide_eq_true (by omega)
          obtain ⟨e, he⟩ : ∃ e, vs[i]? = some e := ⟨_, List.getElem?_eq_getElem (by omega)⟩
          have g0 : fs[0 + (i : Int).toNat * Tryd.prog.types[23].size]? = some (.flt .f64 e) := by
            rw [Int.toNat_natCast, s23, Nat.zero_add, Nat.mul_one]
            exact f64s_get hfs (by rw [List.getElem?_append_left (by omega)]; exact he)
          have hts : vs.take (i + 1) = vs.take i ++ [e] := by rw [List.take_add_one, he]; rfl
          have hnx : t ++ bs (be 8 (fbits e)) = bs ([kb] ++ onB kb false ++ flF (vs.take (i + 1))) := by rw [ht, bs_append, hts, flF_snoc, List.append_assoc]
          conv => whnf
          repeat' ((first | (with_reducible first | refine y'b ‹_› ?_ | refine y'3 ?_) | ((with_reducible apply y'o); (· first | exact g0 | exact g1)) | fail) <;> (conv => whnf))
          refine Fn.frame [] (by rfl) (by exact trivial) (by rfl) (refFloat e (hV e (List.mem_of_getElem? he)) ?_)
          conv => whnf
          repeat' ((first | (with_reducible refine y'5 ‹_› ?_) | ((with_reducible refine y'n ?_ ?_); (· refine decide_eq_true ?_; first | (rw [bs_size, be_length]; omega) | (rw [bs_size]; omega) | (rw [lit1, lit1]; omega))) | fail) <;> (conv => whnf))
          exact ⟨n1 - (i + 1), by omega, Into.weak [0, 1, 2] [(1, .a (.ptr 2 0)), (3, .a (.str (t ++ bs (be 8 (fbits e))))), (4, .a (.int .i64 ((i + 1 : Nat) : Int)))] [.cells fs 23 mk1, .cells rs 21 mk, .cells [.int .u8 z, .bool false, .slc 0 0 n1 c1, .nils, .slc 1 0 n cap] 57 false] ⟨i + 1, _, by omega, rfl, hnx, rfl, rfl⟩ ⟨rfl, rfl, congrArg (fun z => some (V.a (.int .i64 z))) hw, trivial⟩ ⟨ren_pl hfp _ _ _, ren_pl hp _ _ _, rfl, trivial⟩ (by simp [nodupb, baseb, Ob.okb, frmOk, V.okb, A.okb, hp.2, hfp.2] <;> decide)⟩
        · have d1 : decide ((i : Int) < (n1 : Int)) = false := decide_eq_false (by omega)
          rw [show i = n1 by omega, List.take_of_length_le (by omega)] at ht
          obtain ⟨P, hP⟩ : ∃ P, P = [kb] ++ onB kb false ++ flF vs := ⟨_, rfl⟩
          rw [← hP] at ht hK
          have hPl : P.length ≤ 100 := by rw [← bs_size, ← ht]; exact htz
          conv => whnf
          repeat' ((first | (with_reducible refine y'b ‹_› ?_) | fail) <;> (conv => whnf))
          refine loopx_iter 1 ?_
          conv => whnf
          skip
          clear htz hw
          refine loopx_of (fun m F H => ∃ (i : Nat) (t : ByteArray), i ≤ n ∧ m = n - i ∧ t = bs (P ++ flat (L.take i)) ∧ F = [(1, .a (.ptr 2 0)), (3, .a (.str t)), (7, .a (.int .i64 i))] ∧ H = [.cells fs 23 mk1, .cells rs 21 mk, .cells [.int .u8 z, .bool false, .slc 0 0 n1 c1, .nils, .slc 1 0 n cap] 57 false]) n ?_ ?_
          · exact Into.weak [0, 1, 2] [(1, .a (.ptr 2 0)), (3, .a (.str t)), (7, .a (.int .i64 (0 : Nat)))] [.cells fs 23 mk1, .cells rs 21 mk, .cells [.int .u8 z, .bool false, .slc 0 0 n1 c1, .nils, .slc 1 0 n cap] 57 false] ⟨0, _, Nat.zero_le _, rfl, by rw [List.take_zero, flat_nil, List.append_nil]; exact ht, rfl, rfl⟩ ⟨rfl, rfl, rfl, trivial⟩ ⟨ren_pl hfp _ _ _, ren_pl hp _ _ _, rfl, trivial⟩ (by simp [nodupb, baseb, Ob.okb, frmOk, V.okb, A.okb, hp.2, hfp.2] <;> decide)
          · clear ht t d1 hin hi i
            rintro m F H ⟨i, t, hi, rfl, ht, rfl, rfl⟩
            have hw : IntKind.i64.wrap (↑i + 1) = ((i + 1 : Nat) : Int) := by rw [i64w (by omega) (by omega)]; rfl
            have htz : t.size ≤ 100000 := by
              rw [ht, bs_size, List.length_append]
              have := flat_len4 (L.take i)
              rw [List.length_take] at this
              omega
            by_cases hin : i < n
            · have d1 : decide ((i : Int) < (n : Int)) = true := decide_eq_true (by omega)
              have d2 : decide (0 ≤ (i : Int) ∧ (i : Int) < (n : Int)) = true := decide_eq_true (by omega)
              obtain ⟨e, he⟩ : ∃ e, L[i]? = some e := ⟨_, List.getElem?_eq_getElem (by omega)⟩
              have g0 : rs[0 + (i : Int).toNat * Tryd.prog.types[21].size]? = some (.int .i32 (e : Int)) := by
                rw [Int.toNat_natCast, s21, Nat.zero_add, Nat.mul_one]
                exact i32s_get hrs (by rw [List.getElem?_append_left (by omega)]; exact he)
              have hts : L.take (i + 1) = L.take i ++ [e] := by rw [List.take_add_one, he]; rfl
              have hnx : t ++ bs (enc e) = bs (P ++ flat (L.take (i + 1))) := by rw [ht, bs_append, hts, flat_append, flat_one, List.append_assoc]
              have he4 := enc_le4 e
              conv => whnf
              repeat' ((first | (with_reducible first | refine y'b ‹_› ?_ | refine y'3 ?_) | ((with_reducible apply y'o); (· first | exact g0 | exact g1)) | fail) <;> (conv => whnf))
              refine Fn.frame [] (by rfl) (by exact trivial) (by rfl) (coded1 e (hR e (List.mem_of_getElem? he)) ?_)
              conv => whnf
              repeat' ((first | (with_reducible refine y'5 ‹_› ?_) | ((with_reducible refine y'n ?_ ?_); (· refine decide_eq_true ?_; first | (rw [bs_size, be_length]; omega) | (rw [bs_size]; omega) | (rw [lit1, lit1]; omega))) | fail) <;> (conv => whnf))
              exact ⟨n - (i + 1), by omega, Into.weak [0, 1, 2] [(1, .a (.ptr 2 0)), (3, .a (.str (t ++ bs (enc e)))), (7, .a (.int .i64 ((i + 1 : Nat) : Int)))] [.cells fs 23 mk1, .cells rs 21 mk, .cells [.int .u8 z, .bool false, .slc 0 0 n1 c1, .nils, .slc 1 0 n cap] 57 false] ⟨i + 1, _, by omega, rfl, hnx, rfl, rfl⟩ ⟨rfl, rfl, congrArg (fun z => some (V.a (.int .i64 z))) hw, trivial⟩ ⟨ren_pl hfp _ _ _, ren_pl hp _ _ _, rfl, trivial⟩ (by simp [nodupb, baseb, Ob.okb, frmOk, V.okb, A.okb, hp.2, hfp.2] <;> decide)⟩
            · have d1 : decide ((i : Int) < (n : Int)) = false := decide_eq_false (by omega)
              rw [show i = n by omega, List.take_of_length_le (by omega)] at ht
              conv => whnf
              repeat' ((first | (with_reducible refine y'b ‹_› ?_) | fail) <;> (conv => whnf))
              rw [ht]
              exact keepOf (v₀ := .a (.str (bs (P ++ flat L)))) [.cells fs 23 mk1, .cells rs 21 mk] [0, 1] rfl ⟨ren_pl hfp _ _ _, ren_pl hp _ _ _, trivial⟩ (by simp [nodupb, baseb, Ob.okb, frmOk, V.okb, A.okb, hp.2, hfp.2] <;> decide) hK
  · have hz1 : (z == 1) = false := by
      simp only [beq_eq_false_iff_ne, ne_eq]
      intro e
      exact hk1 (UInt8.toNat_inj.1 (show kb.toNat = 1 by omega))
    have h0 : ({ data := #[UInt8.ofNat z.toNat] } : ByteArray) = bs ([kb] ++ onB kb on) := by
      rw [hks]; unfold onB; rw [if_neg hk1]; rfl
    conv => whnf
    repeat' ((first | (with_reducible refine y'b ‹_› ?_) | (with_reducible refine y'5 ‹_› ?_) | fail) <;> (conv => whnf))
    rw [h0]
    refine loopx_of (fun m F H => ∃ (i : Nat) (t : ByteArray), i ≤ n1 ∧ m = n1 - i ∧ t = bs ([kb] ++ onB kb on ++ flF (vs.take i)) ∧ F = [(1, .a (.ptr 2 0)), (3, .a (.str t)), (4, .a (.int .i64 i))] ∧ H = [.cells fs 23 mk1, .cells rs 21 mk, .cells [.int .u8 z, .bool on, .slc 0 0 n1 c1, .nils, .slc 1 0 n cap] 57 false]) n1 ?_ ?_
    · exact Into.weak [0, 1, 2] [(1, .a (.ptr 2 0)), (3, .a (.str (bs ([kb] ++ onB kb on)))), (4, .a (.int .i64 (0 : Nat)))] [.cells fs 23 mk1, .cells rs 21 mk, .cells [.int .u8 z, .bool on, .slc 0 0 n1 c1, .nils, .slc 1 0 n cap] 57 false] ⟨0, _, Nat.zero_le _, rfl, by rw [List.take_zero]; unfold flF; simp, rfl, rfl⟩ ⟨rfl, rfl, rfl, trivial⟩ ⟨ren_pl hfp _ _ _, ren_pl hp _ _ _, rfl, trivial⟩ (by simp [nodupb, baseb, Ob.okb, frmOk, V.okb, A.okb, hp.2, hfp.2] <;> decide)
    · rintro m F H ⟨i, t, hi, rfl, ht, rfl, rfl⟩
      have hw : IntKind.i64.wrap (↑i + 1) = ((i + 1 : Nat) : Int) := by rw [i64w (by omega) (by omega)]; rfl
      have htz : t.size ≤ 100 := by
        rw [ht, bs_size, List.length_append, List.length_append, flF_len, List.length_take, List.length_singleton]
        have := onB_len kb on
        omega
      by_cases hin : i < n1
      · have d1 : decide ((i : Int) < (n1 : Int)) = true := decide_eq_true (by omega)
        have d2 : decide (0 ≤ (i : Int) ∧ (i : Int) < (n1 : Int)) = true := decide_eq_true (by omega)
        obtain ⟨e, he⟩ : ∃ e, vs[i]? = some e := ⟨_, List.getElem?_eq_getElem (by omega)⟩
        have g0 : fs[0 + (i : Int).toNat * Tryd.prog.types[23].size]? = some (.flt .f64 e) := by
          rw [Int.toNat_natCast, s23, Nat.zero_add, Nat.mul_one]
          exact f64s_get hfs (by rw [List.getElem?_append_left (by omega)]; exact he)
        have hts : vs.take (i + 1) = vs.take i ++ [e] := by rw [List.take_add_one, he]; rfl
        have hnx : t ++ bs (be 8 (fbits e)) = bs ([kb] ++ onB kb on ++ flF (vs.take (i + 1))) := by rw [ht, bs_append, hts, flF_snoc, List.append_assoc]
        conv => whnf
        repeat' ((first | (with_reducible first | refine y'b ‹_› ?_ | refine y'3 ?_) | ((with_reducible apply y'o); (· first | exact g0 | exact g1)) | fail) <;> (conv => whnf))
        refine Fn.frame [] (by rfl) (by exact trivial) (by rfl) (refFloat e (hV e (List.mem_of_getElem? he)) ?_)
        conv => whnf
        repeat' ((first | (with_reducible refine y'5 ‹_› ?_) | ((with_reducible refine y'n ?_ ?_); (· refine decide_eq_true ?_; first | (rw [bs_size, be_length]; omega) | (rw [bs_size]; omega) | (rw [lit1, lit1]; omega))) | fail) <;> (conv => whnf))
        exact ⟨n1 - (i + 1), by omega, Into.weak [0, 1, 2] [(1, .a (.ptr 2 0)), (3, .a (.str (t ++ bs (be 8 (fbits e))))), (4, .a (.int .i64 ((i + 1 : Nat) : Int)))] [.cells fs 23 mk1, .cells rs 21 mk, .cells [.int .u8 z, .bool on, .slc 0 0 n1 c1, .nils, .slc 1 0 n cap] 57 false] ⟨i + 1, _, by omega, rfl, hnx, rfl, rfl⟩ ⟨rfl, rfl, congrArg (fun z => some (V.a (.int .i64 z))) hw, trivial⟩ ⟨ren_pl hfp _ _ _, ren_pl hp _ _ _, rfl, trivial⟩ (by simp [nodupb, baseb, Ob.okb, frmOk, V.okb, A.okb, hp.2, hfp.2] <;> decide)⟩
      · have d1 : decide ((i : Int) < (n1 : Int)) = false := decide_eq_false (by omega)
        rw [show i = n1 by omega, List.take_of_length_le (by omega)] at ht
        obtain ⟨P, hP⟩ : ∃ P, P = [kb] ++ onB kb on ++ flF vs := ⟨_, rfl⟩
        rw [← hP] at ht hK
        have hPl : P.length ≤ 100 := by rw [← bs_size, ← ht]; exact htz
        conv => whnf
        repeat' ((first | (with_reducible refine y'b ‹_› ?_) | fail) <;> (conv => whnf))
        refine loopx_iter 1 ?_
        conv => whnf
        skip
        clear htz hw
        refine loopx_of (fun m F H => ∃ (i : Nat) (t : ByteArray), i ≤ n ∧ m = n - i ∧ t = bs (P ++ flat (L.take i)) ∧ F = [(1, .a (.ptr 2 0)), (3, .a (.str t)), (7, .a (.int .i64 i))] ∧ H = [.cells fs 23 mk1, .cells rs 21 mk, .cells [.int .u8 z, .bool on, .slc 0 0 n1 c1, .nils, .slc 1 0 n cap] 57 false]) n ?_ ?_
        · exact Into.weak [0, 1, 2] [(1, .a (.ptr 2 0)), (3, .a (.str t)), (7, .a (.int .i64 (0 : Nat)))] [.cells fs 23 mk1, .cells rs 21 mk, .cells [.int .u8 z, .bool on, .slc 0 0 n1 c1, .nils, .slc 1 0 n cap] 57 false] ⟨0, _, Nat.zero_le _, rfl, by rw [List.take_zero, flat_nil, List.append_nil]; exact ht, rfl, rfl⟩ ⟨rfl, rfl, rfl, trivial⟩ ⟨ren_pl hfp _ _ _, ren_pl hp _ _ _, rfl, trivial⟩ (by simp [nodupb, baseb, Ob.okb, frmOk, V.okb, A.okb, hp.2, hfp.2] <;> decide)
        · clear ht t d1 hin hi i
          rintro m F H ⟨i, t, hi, rfl, ht, rfl, rfl⟩
          have hw : IntKind.i64.wrap (↑i + 1) = ((i + 1 : Nat) : Int) := by rw [i64w (by omega) (by omega)]; rfl
          have htz : t.size ≤ 100000 := by
            rw [ht, bs_size, List.length_append]
            have := flat_len4 (L.take i)
            rw [List.length_take] at this
            omega
          by_cases hin : i < n
          · have d1 : decide ((i : Int) < (n : Int)) = true := decide_eq_true (by omega)
            have d2 : decide (0 ≤ (i : Int) ∧ (i : Int) < (n : Int)) = true := decide_eq_true (by omega)
            obtain ⟨e, he⟩ : ∃ e, L[i]? = some e := ⟨_, List.getElem?_eq_getElem (by omega)⟩
            have g0 : rs[0 + (i : Int).toNat * Tryd.prog.types[21].size]? = some (.int .i32 (e : Int)) := by
              rw [Int.toNat_natCast, s21, Nat.zero_add, Nat.mul_one]
              exact i32s_get hrs (by rw [List.getElem?_append_left (by omega)]; exact he)
            have hts : L.take (i + 1) = L.take i ++ [e] := by rw [List.take_add_one, he]; rfl
            have hnx : t ++ bs (enc e) = bs (P ++ flat (L.take (i + 1))) := by rw [ht, bs_append, hts, flat_append, flat_one, List.append_assoc]
            have he4 := enc_le4 e
            conv => whnf
            repeat' ((first | (with_reducible first | refine y'b ‹_› ?_ | refine y'3 ?_) | ((with_reducible apply y'o); (· first | exact g0 | exact g1)) | fail) <;> (conv => whnf))
            refine Fn.frame [] (by rfl) (by exact trivial) (by rfl) (coded1 e (hR e (List.mem_of_getElem? he)) ?_)
            conv => whnf
            repeat' ((first | (with_reducible refine y'5 ‹_› ?_) | ((with_reducible refine y'n ?_ ?_); (· refine decide_eq_true ?_; first | (rw [bs_size, be_length]; omega) | (rw [bs_size]; omega) | (rw [lit1, lit1]; omega))) | fail) <;> (conv => whnf))
            exact ⟨n - (i + 1), by omega, Into.weak [0, 1, 2] [(1, .a (.ptr 2 0)), (3, .a (.str (t ++ bs (enc e)))), (7, .a (.int .i64 ((i + 1 : Nat) : Int)))] [.cells fs 23 mk1, .cells rs 21 mk, .cells [.int .u8 z, .bool on, .slc 0 0 n1 c1, .nils, .slc 1 0 n cap] 57 false] ⟨i + 1, _, by omega, rfl, hnx, rfl, rfl⟩ ⟨rfl, rfl, congrArg (fun z => some (V.a (.int .i64 z))) hw, trivial⟩ ⟨ren_pl hfp _ _ _, ren_pl hp _ _ _, rfl, trivial⟩ (by simp [nodupb, baseb, Ob.okb, frmOk, V.okb, A.okb, hp.2, hfp.2] <;> decide)⟩
          · have d1 : decide ((i : Int) < (n : Int)) = false := decide_eq_false (by omega)
            rw [show i = n by omega, List.take_of_length_le (by omega)] at ht
            conv => whnf
            repeat' ((first | (with_reducible refine y'b ‹_› ?_) | fail) <;> (conv => whnf))
            rw [ht]
            exact keepOf (v₀ := .a (.str (bs (P ++ flat L)))) [.cells fs 23 mk1, .cells rs 21 mk] [0, 1] rfl ⟨ren_pl hfp _ _ _, ren_pl hp _ _ _, trivial⟩ (by simp [nodupb, baseb, Ob.okb, frmOk, V.okb, A.okb, hp.2, hfp.2] <;> decide) hK
end
end Go.Proofs.YtimddbgnaeeggaaDoor.KD
