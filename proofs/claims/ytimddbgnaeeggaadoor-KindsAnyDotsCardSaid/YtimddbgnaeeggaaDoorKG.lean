import Derived.Test.YtimddbgnaeeggaaDoorKE
namespace Go.Proofs.YtimddbgnaeeggaaDoor.KD
open Go.Eng
set_option maxRecDepth 100000
/-- What counts come to. -/
def sumC (c : List Nat) : Nat → Int
  | 0 => 0
  | i + 1 => sumC c i + ((c.getD (i * 2) 0 : Int) - (c.getD (i * 2 + 1) 0 : Int))
theorem sumC_le {c : List Nat} (h : ∀ n ∈ c, n < 65536) : ∀ i : Nat, -(65535 * (i : Int)) ≤ sumC c i ∧ sumC c i ≤ 65535 * (i : Int)
  | 0 => by simp [sumC]
  | i + 1 => by
    have ih := sumC_le h i
    have g : ∀ k, c.getD k 0 < 65536 := by
      intro k
      rw [List.getD_eq_getElem?_getD]
      cases hk : c[k]? with
      | none => simp
      | some x => exact h x (List.mem_of_getElem? hk)
    have h1 := g (i * 2)
    have h2 := g (i * 2 + 1)
    unfold sumC
    omega
theorem ren_gpl {rs : List A} (h : Pl rs) (δ : Nat → Nat) : some (V.g rs) = some ((V.g rs).ren δ) := by simp [V.ren, h.1]
theorem pick16z {rs : List A} {c : List Nat} {i u d : Nat} (h : rs = u16s c) (hu : c[i * 2]? = some u) (hd : c[i * 2 + 1]? = some d) : List.drop ((i : Int).toNat * Tryd.prog.types[91].size) (List.take ((i : Int).toNat * Tryd.prog.types[91].size + Tryd.prog.types[91].size) rs) = [.int .u16 (u : Int), .int .u16 (d : Int)] := by
  have := pick16 h hu hd
  rw [Nat.zero_add] at this
  exact this
theorem i32w {x : Int} (h : -2147483648 ≤ x ∧ x ≤ 2147483647) : IntKind.i32.wrap x = x := by
  simp only [IntKind.wrap, IntKind.signed, IntKind.bits]
  simp
  omega
section
variable {ro : Addr → A → Prop}
set_option maxHeartbeats 1000000 in
theorem asTally1 (T : List UInt8) (hT : T.length ≤ 39) (c : List Nat) (ht : tallyP T = (c, true)) {K : V → Hp → Prop}
    (hK : K (.t [.a (.int .i32 (sumC c 6)), .a (.int .i64 0)]) []) :
    Go.Eng.Fn Tryd.prog ro 31 [.a (.str (bs (3 :: T)))] [] K := by
  have hsz := bs_size (3 :: T)
  have g0 : byteAt (bs (3 :: T)) 0 = some 3 := byteAt_bs (i := 0) rfl
  have hx : (bs (3 :: T)).extract (Int.toNat 1) (bs (3 :: T)).size = bs T := by
    rw [bs_extract, hsz]
    congr 1
    show List.take ((3 :: T).length - 1) (List.drop 1 (3 :: T)) = T
    rw [List.drop_succ_cons, List.drop_zero, List.length_cons, Nat.add_sub_cancel, List.take_of_length_le (Nat.le_refl _)]
  have c0 : ((bs (3 :: T)).data.toList == ([] : List UInt8)) = false := rfl
  rw [List.length_cons] at hsz
  have c1 : decide (((bs (3 :: T)).size : Int) > 40) = false := decide_eq_false (by omega)
  have c2 : decide ((0 : Int) ≤ 1 ∧ (1 : Int) ≤ ((bs (3 :: T)).size : Int)) = true := decide_eq_true (by omega)
  refine Fn.weak ?_
  refine Fn.of_code (gOf []) Tryd.func31 rfl (Nat.le_of_ble_eq_true rfl) ?_
  conv => whnf
  repeat' ((first | ((with_reducible refine y'r ?_ ?_); (· decide +kernel)) | ((with_reducible refine y'g ?_ ?_); (· exact ⟨_, rfl⟩)) | (with_reducible first | refine y'b ‹_› ?_ | refine y'n ‹_› ?_ | refine y'1 ‹_› ?_ | refine y'2 ‹_› ?_ | refine y'3 ?_ | refine y'4 ?_) | ((with_reducible refine y'n ?_ ?_); (· first | assumption | exact decide_eq_true (by omega) | decide +kernel)) | ((with_reducible refine y'b ?_ ?_); (· assumption)) | (with_reducible first | refine y'n (y'7 ‹_› ‹_›) ?_ | refine y'v (y'8 ‹_› ‹_›) (fun s hs => ?_) | refine y'5 ‹_› ?_ | refine y'6 ‹_› ?_) | ((with_reducible apply y'o); (· first | exact g0 | exact g1 | exact g2)) | (with_reducible first | refine y'n (st12 ‹_›) ?_ | refine y'n (len12 ‹_›) ?_ | refine y't (store12 ‹_›) ?_ | refine y't (whole12 ‹_›) ?_) | ((with_reducible refine y'p ?_ ?_); (· rfl)) | ((with_reducible refine y'q ?_ ?_); (· rfl)) | fail) <;> (conv => whnf))
  refine Fn.frame [] (by rfl) (by exact trivial) (by rfl) (kind_tally T hT (fun k hk => ?_))
  rw [ht] at hk
  obtain rfl : k = 3 := hk
  generalize bs (3 :: T) = s at *
  conv => whnf
  repeat' ((first | ((with_reducible refine y'r ?_ ?_); (· decide +kernel)) | ((with_reducible refine y'g ?_ ?_); (· exact ⟨_, rfl⟩)) | (with_reducible first | refine y'b ‹_› ?_ | refine y'n ‹_› ?_ | refine y'1 ‹_› ?_ | refine y'2 ‹_› ?_ | refine y'3 ?_ | refine y'4 ?_) | ((with_reducible refine y'n ?_ ?_); (· first | assumption | exact decide_eq_true (by omega) | decide +kernel)) | ((with_reducible refine y'b ?_ ?_); (· assumption)) | (with_reducible first | refine y'n (y'7 ‹_› ‹_›) ?_ | refine y'v (y'8 ‹_› ‹_›) (fun s hs => ?_) | refine y'5 ‹_› ?_ | refine y'6 ‹_› ?_) | ((with_reducible apply y'o); (· first | exact g0 | exact g1 | exact g2)) | (with_reducible first | refine y'n (st12 ‹_›) ?_ | refine y'n (len12 ‹_›) ?_ | refine y't (store12 ‹_›) ?_ | refine y't (whole12 ‹_›) ?_) | ((with_reducible refine y'p ?_ ?_); (· rfl)) | ((with_reducible refine y'q ?_ ?_); (· rfl)) | fail) <;> (conv => whnf))
  rw [hx]
  refine Fn.frame [] (by rfl) (by exact trivial) (by rfl) (tally1 T (by omega) (fun c2 ok rs ht2 hrs hc h16 => ?_))
  rw [ht] at ht2
  obtain ⟨rfl, rfl⟩ : c = c2 ∧ true = ok := by injection ht2 with h1 h2; exact ⟨h1, h2⟩
  have hp := u16s_pl hrs
  have hrl : rs.length = 12 := by rw [u16s_len hrs, hc]
  conv => whnf
  repeat' ((first | ((with_reducible refine y'r ?_ ?_); (· decide +kernel)) | ((with_reducible refine y'g ?_ ?_); (· exact ⟨_, rfl⟩)) | (with_reducible first | refine y'b ‹_› ?_ | refine y'n ‹_› ?_ | refine y'1 ‹_› ?_ | refine y'2 ‹_› ?_ | refine y'3 ?_ | refine y'4 ?_) | ((with_reducible refine y'n ?_ ?_); (· first | assumption | exact decide_eq_true (by omega) | decide +kernel)) | ((with_reducible refine y'b ?_ ?_); (· assumption)) | (with_reducible first | refine y'n (y'7 ‹_› ‹_›) ?_ | refine y'v (y'8 ‹_› ‹_›) (fun s hs => ?_) | refine y'5 ‹_› ?_ | refine y'6 ‹_› ?_) | ((with_reducible apply y'o); (· first | exact g0 | exact g1 | exact g2)) | (with_reducible first | refine y'n (st12 ‹_›) ?_ | refine y'n (len12 ‹_›) ?_ | refine y't (store12 ‹_›) ?_ | refine y't (whole12 ‹_›) ?_) | ((with_reducible refine y'p ?_ ?_); (· rfl)) | ((with_reducible refine y'q ?_ ?_); (· rfl)) | fail) <;> (conv => whnf))
  refine loopx_of (fun m F H => ∃ i : Nat, i ≤ 6 ∧ m = 6 - i ∧ F = [(18, .g rs), (19, .a (.int .i64 i)), (6, .a (.int .i32 (sumC c i)))] ∧ H = []) 6 ?_ ?_
  · exact Into.weak [] [(18, .g rs), (19, .a (.int .i64 (0 : Nat))), (6, .a (.int .i32 (sumC c 0)))] [] ⟨0, by omega, rfl, rfl, rfl⟩ ⟨ren_gpl hp _, rfl, rfl, trivial⟩ trivial (by simp [nodupb, baseb, frmOk, V.okb, A.okb, hp.2])
  · rintro m F H ⟨i, hi, rfl, rfl, rfl⟩
    have hw : IntKind.i64.wrap (↑i + 1) = ((i + 1 : Nat) : Int) := by rw [i64w (by omega) (by omega)]; rfl
    obtain ⟨z, hz⟩ : ∃ z, z = sumC c i := ⟨_, rfl⟩
    have hzl := sumC_le h16 i
    rw [← hz] at hzl ⊢
    conv => whnf
    repeat' ((first | ((with_reducible refine y'r ?_ ?_); (· decide +kernel)) | ((with_reducible refine y'g ?_ ?_); (· exact ⟨_, rfl⟩)) | (with_reducible first | refine y'b ‹_› ?_ | refine y'n ‹_› ?_ | refine y'1 ‹_› ?_ | refine y'2 ‹_› ?_ | refine y'3 ?_ | refine y'4 ?_) | ((with_reducible refine y'n ?_ ?_); (· first | assumption | exact decide_eq_true (by omega) | decide +kernel)) | ((with_reducible refine y'b ?_ ?_); (· assumption)) | (with_reducible first | refine y'n (y'7 ‹_› ‹_›) ?_ | refine y'v (y'8 ‹_› ‹_›) (fun s hs => ?_) | refine y'5 ‹_› ?_ | refine y'6 ‹_› ?_) | ((with_reducible apply y'o); (· first | exact g0 | exact g1 | exact g2)) | (with_reducible first | refine y'n (st12 ‹_›) ?_ | refine y'n (len12 ‹_›) ?_ | refine y't (store12 ‹_›) ?_ | refine y't (whole12 ‹_›) ?_) | ((with_reducible refine y'p ?_ ?_); (· rfl)) | ((with_reducible refine y'q ?_ ?_); (· rfl)) | fail) <;> (conv => whnf))
    refine y'c (fun h => ?_) (fun h => ?_)
    · have hin : i < 6 := by have := of_decide_eq_true h; omega
      obtain ⟨u, hu⟩ : ∃ u, c[i * 2]? = some u := ⟨_, List.getElem?_eq_getElem (by omega)⟩
      obtain ⟨d, hd⟩ : ∃ d, c[i * 2 + 1]? = some d := ⟨_, List.getElem?_eq_getElem (by omega)⟩
      have hu16 := h16 u (List.mem_of_getElem? hu)
      have hd16 := h16 d (List.mem_of_getElem? hd)
      conv => whnf
      repeat' ((first | ((with_reducible refine y'r ?_ ?_); (· decide +kernel)) | ((with_reducible refine y'g ?_ ?_); (· exact ⟨_, rfl⟩)) | (with_reducible first | refine y'b ‹_› ?_ | refine y'n ‹_› ?_ | refine y'1 ‹_› ?_ | refine y'2 ‹_› ?_ | refine y'3 ?_ | refine y'4 ?_) | ((with_reducible refine y'n ?_ ?_); (· first | assumption | exact decide_eq_true (by omega) | decide +kernel)) | ((with_reducible refine y'b ?_ ?_); (· assumption)) | (with_reducible first | refine y'n (y'7 ‹_› ‹_›) ?_ | refine y'v (y'8 ‹_› ‹_›) (fun s hs => ?_) | refine y'5 ‹_› ?_ | refine y'6 ‹_› ?_) | ((with_reducible apply y'o); (· first | exact g0 | exact g1 | exact g2)) | (with_reducible first | refine y'n (st12 ‹_›) ?_ | refine y'n (len12 ‹_›) ?_ | refine y't (store12 ‹_›) ?_ | refine y't (whole12 ‹_›) ?_) | ((with_reducible refine y'p ?_ ?_); (· rfl)) | ((with_reducible refine y'q ?_ ?_); (· rfl)) | fail) <;> (conv => whnf))
      refine y't (pick16z hrs hu hd) ?_
      conv => whnf
      repeat' ((first | ((with_reducible refine y'r ?_ ?_); (· decide +kernel)) | ((with_reducible refine y'g ?_ ?_); (· exact ⟨_, rfl⟩)) | (with_reducible first | refine y'b ‹_› ?_ | refine y'n ‹_› ?_ | refine y'1 ‹_› ?_ | refine y'2 ‹_› ?_ | refine y'3 ?_ | refine y'4 ?_) | ((with_reducible refine y'n ?_ ?_); (· first | assumption | exact decide_eq_true (by omega) | decide +kernel)) | ((with_reducible refine y'b ?_ ?_); (· assumption)) | (with_reducible first | refine y'n (y'7 ‹_› ‹_›) ?_ | refine y'v (y'8 ‹_› ‹_›) (fun s hs => ?_) | refine y'5 ‹_› ?_ | refine y'6 ‹_› ?_) | ((with_reducible apply y'o); (· first | exact g0 | exact g1 | exact g2)) | (with_reducible first | refine y'n (st12 ‹_›) ?_ | refine y'n (len12 ‹_›) ?_ | refine y't (store12 ‹_›) ?_ | refine y't (whole12 ‹_›) ?_) | ((with_reducible refine y'p ?_ ?_); (· rfl)) | ((with_reducible refine y'q ?_ ?_); (· rfl)) | fail) <;> (conv => whnf))
      have hs : sumC c (i + 1) = z + ((u : Int) - (d : Int)) := by
        show sumC c i + _ = _
        rw [← hz, List.getD_eq_getElem?_getD, List.getD_eq_getElem?_getD, hu, hd]; rfl
      have hv : IntKind.i32.wrap (z + IntKind.i32.wrap (IntKind.i32.wrap (u : Int) - IntKind.i32.wrap (d : Int))) = sumC c (i + 1) := by
        rw [hs, i32w (x := (u : Int)) (by omega), i32w (x := (d : Int)) (by omega), i32w (x := (u : Int) - (d : Int)) (by omega), i32w (by omega)]
      exact ⟨6 - (i + 1), by omega, Into.weak [] [(18, .g rs), (19, .a (.int .i64 ((i + 1 : Nat) : Int))), (6, .a (.int .i32 (sumC c (i + 1))))] [] ⟨i + 1, by omega, rfl, rfl, rfl⟩ ⟨ren_gpl hp _, congrArg (fun z => some (V.a (.int .i64 z))) hw, congrArg (fun z => some (V.a (.int .i32 z))) hv, trivial⟩ trivial (by simp [nodupb, baseb, frmOk, V.okb, A.okb, hp.2])⟩
    · have hin : i = 6 := by have := of_decide_eq_false h; omega
      subst hin
      rw [← hz] at hK
      conv => whnf
      repeat' ((first | ((with_reducible refine y'r ?_ ?_); (· decide +kernel)) | ((with_reducible refine y'g ?_ ?_); (· exact ⟨_, rfl⟩)) | (with_reducible first | refine y'b ‹_› ?_ | refine y'n ‹_› ?_ | refine y'1 ‹_› ?_ | refine y'2 ‹_› ?_ | refine y'3 ?_ | refine y'4 ?_) | ((with_reducible refine y'n ?_ ?_); (· first | assumption | exact decide_eq_true (by omega) | decide +kernel)) | ((with_reducible refine y'b ?_ ?_); (· assumption)) | (with_reducible first | refine y'n (y'7 ‹_› ‹_›) ?_ | refine y'v (y'8 ‹_› ‹_›) (fun s hs => ?_) | refine y'5 ‹_› ?_ | refine y'6 ‹_› ?_) | ((with_reducible apply y'o); (· first | exact g0 | exact g1 | exact g2)) | (with_reducible first | refine y'n (st12 ‹_›) ?_ | refine y'n (len12 ‹_›) ?_ | refine y't (store12 ‹_›) ?_ | refine y't (whole12 ‹_›) ?_) | ((with_reducible refine y'p ?_ ?_); (· rfl)) | ((with_reducible refine y'q ?_ ?_); (· rfl)) | fail) <;> (conv => whnf))
      exact keepOf (v₀ := .t [.a (.int .i32 z), .a (.int .i64 0)]) [] [] rfl trivial rfl hK
/-- The greater counts. -/
def mxC (c d : List Nat) : List Nat := List.zipWith max c d
theorem mxC_len {c d : List Nat} (hc : c.length = 12) (hd : d.length = 12) : (mxC c d).length = 12 := by simp [mxC, hc, hd]
theorem mxC_lt {c d : List Nat} (hc : ∀ n ∈ c, n < 65536) (hd : ∀ n ∈ d, n < 65536) : ∀ n ∈ mxC c d, n < 65536 := by
  intro n hn
  obtain ⟨k, hk⟩ := List.mem_iff_getElem?.1 hn
  unfold mxC at hk
  rw [List.getElem?_zipWith] at hk
  cases h1 : c[k]? with
  | none => rw [h1] at hk; simp at hk
  | some x =>
    cases h2 : d[k]? with
    | none => rw [h1, h2] at hk; simp at hk
    | some y =>
      rw [h1, h2] at hk
      obtain rfl : max x y = n := by simpa using hk
      have := hc x (List.mem_of_getElem? h1)
      have := hd y (List.mem_of_getElem? h2)
      omega
theorem imax (u v : Nat) : (if (v : Int) > (u : Int) then (v : Int) else (u : Int)) = ((max u v : Nat) : Int) := by
  split <;> omega
theorem mx_step {c d e : List Nat} {i u u' v v' : Nat} (hu : c[i * 2]? = some u) (hu' : c[i * 2 + 1]? = some u') (hv : d[i * 2]? = some v) (hv' : d[i * 2 + 1]? = some v') (_ : e.length = 12)
    (h : ∀ k, e[k]? = if k < i * 2 then (mxC c d)[k]? else c[k]?) : ∀ k, ((e.set (i * 2 + 0) (max u v)).set (i * 2 + 1) (max u' v'))[k]? = if k < (i + 1) * 2 then (mxC c d)[k]? else c[k]? := by
  have hl0 : i * 2 < e.length := by
    have := h (i * 2)
    rw [if_neg (by omega), hu] at this
    exact (List.getElem?_eq_some_iff.1 this).1
  have hl1 : i * 2 + 1 < e.length := by
    have := h (i * 2 + 1)
    rw [if_neg (by omega), hu'] at this
    exact (List.getElem?_eq_some_iff.1 this).1
  intro k
  by_cases k1 : k = i * 2 + 1
  · subst k1
    rw [List.getElem?_set_self (by rw [List.length_set]; exact hl1), if_pos (by omega)]
    unfold mxC
    rw [List.getElem?_zipWith, hu', hv']
  · rw [List.getElem?_set_ne (by omega)]
    by_cases k0 : k = i * 2
    · subst k0
      rw [Nat.add_zero, List.getElem?_set_self hl0, if_pos (by omega)]
      unfold mxC
      rw [List.getElem?_zipWith, hu, hv]
    · rw [List.getElem?_set_ne (by omega), h k]
      by_cases k2 : k < i * 2
      · rw [if_pos k2, if_pos (by omega)]
      · rw [if_neg k2, if_neg (by omega)]
end
end Go.Proofs.YtimddbgnaeeggaaDoor.KD
