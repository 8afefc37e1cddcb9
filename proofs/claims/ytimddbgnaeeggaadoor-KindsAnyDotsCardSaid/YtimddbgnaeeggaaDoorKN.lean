import Derived.Test.YtimddbgnaeeggaaDoorKQ
import Derived.Test.YtimddbgnaeeggaaDoorKE
import Derived.Test.YtimddbgnaeeggaaDoorKS
import Derived.Test.YtimddbgnaeeggaaDoorKA
namespace Go.Proofs.YtimddbgnaeeggaaDoor.KD
open Go.Eng
set_option maxRecDepth 100000
/-- What values are. -/
inductive Va where
  | flag (b : Bool)
  | real (u : Nat)
  | tally (c : List Nat)
  | runes (rs : List Nat)
  | corner (u w : Nat)
def Va.bytes : Va → List UInt8
  | .flag b => [1, if b then 1 else 0]
  | .real u => 2 :: be 8 u
  | .tally c => 3 :: encC c 6
  | .runes rs => 4 :: flat rs
  | .corner u w => 5 :: (be 8 u ++ be 8 w)
def Va.kind : Va → UInt8
  | .flag _ => 1
  | .real _ => 2
  | .tally _ => 3
  | .runes _ => 4
  | .corner _ _ => 5
def Va.ok : Va → Prop
  | .flag _ => True
  | .real u => Can u
  | .tally c => Ct c
  | .runes rs => AllV rs ∧ Rise rs ∧ (flat rs).length ≤ 39
  | .corner u w => Can u ∧ Can w
theorem Va.len {v : Va} (h : v.ok) : v.bytes.length ≤ 40 := by
  cases v with
  | flag b => cases b <;> decide
  | real u => simp [Va.bytes, be_length]
  | tally c => have := enc_le c; simp [Va.bytes]; omega
  | runes rs => have := h.2.2; simp [Va.bytes]; omega
  | corner u w => simp [Va.bytes, be_length]
theorem Va.head (v : Va) : v.bytes.head? = some v.kind := by cases v <;> rfl
theorem Va.inj {v w : Va} (h : v.ok) (h' : w.ok) (e : v.bytes = w.bytes) : v = w := by
  have hk := (Va.head v).symm.trans ((congrArg List.head? e).trans (Va.head w))
  cases v <;> cases w <;> first | (exfalso; revert hk; simp [Va.kind]; done) | skip
  · rename_i a b
    cases a <;> cases b <;> first | rfl | (exfalso; revert e; simp [Va.bytes])
  · rename_i a b
    injection e with _ e
    rw [be_inj h.1 h'.1 e]
  · rename_i a b
    rw [told_inj h h' e]
  · rename_i a b
    injection e with _ e
    rw [flat_inj h.1 h'.1 e]
  · rename_i a b c d
    injection e with _ e
    obtain ⟨e1, e2⟩ := List.append_inj e (by rw [be_length, be_length])
    rw [be_inj h.1.1 h'.1.1 e1, be_inj h.2.1 h'.2.1 e2]
def IsVa (L : List UInt8) : Prop := ∃ v : Va, v.ok ∧ L = v.bytes
theorem isVa_nil : ¬ IsVa [] := by
  rintro ⟨v, _, e⟩
  cases v <;> cases e
theorem isVa_big {L : List UInt8} (h : 40 < L.length) : ¬ IsVa L := by
  rintro ⟨v, hv, e⟩
  have := Va.len hv
  rw [← e] at this
  omega
theorem isVa_head {b : UInt8} {T : List UInt8} (h1 : b ≠ 1) (h2 : b ≠ 2) (h3 : b ≠ 3) (h4 : b ≠ 4) (h5 : b ≠ 5) : ¬ IsVa (b :: T) := by
  rintro ⟨v, _, e⟩
  cases v <;> (injection e with e _; first | exact h1 e | exact h2 e | exact h3 e | exact h4 e | exact h5 e)
theorem isVa_1 {T : List UInt8} (h : IsVa (1 :: T)) : T = [0] ∨ T = [1] := by
  obtain ⟨v, _, e⟩ := h
  cases v with
  | flag b => injection e with _ e; cases b; exact .inl e; exact .inr e
  | _ => injection e with e _; exact absurd e (by decide)
theorem isVa_2 {T : List UInt8} (h : IsVa (2 :: T)) : ∃ u, Can u ∧ T = be 8 u := by
  obtain ⟨v, hv, e⟩ := h
  cases v with
  | real u => injection e with _ e; exact ⟨u, hv, e⟩
  | _ => injection e with e _; exact absurd e (by decide)
theorem isVa_3 {T : List UInt8} (h : IsVa (3 :: T)) : ∃ c, Ct c ∧ T = encC c 6 := by
  obtain ⟨v, hv, e⟩ := h
  cases v with
  | tally c => injection e with _ e; exact ⟨c, hv, e⟩
  | _ => injection e with e _; exact absurd e (by decide)
theorem isVa_4 {T : List UInt8} (h : IsVa (4 :: T)) : ∃ rs, AllV rs ∧ Rise rs ∧ T = flat rs := by
  obtain ⟨v, hv, e⟩ := h
  cases v with
  | runes rs => injection e with _ e; exact ⟨rs, hv.1, hv.2.1, e⟩
  | _ => injection e with e _; exact absurd e (by decide)
theorem isVa_5 {T : List UInt8} (h : IsVa (5 :: T)) : ∃ u w, Can u ∧ Can w ∧ T = be 8 u ++ be 8 w := by
  obtain ⟨v, hv, e⟩ := h
  cases v with
  | corner u w => injection e with _ e; exact ⟨u, w, hv.1, hv.2, e⟩
  | _ => injection e with e _; exact absurd e (by decide)
/-- Reading floats, the other way. -/
theorem rf_conv {L : List UInt8} {a : Nat} {v a' : Nat} {e' : Int} (h : rf L a 0 = (v, a', e')) (he : e' = 0) : Can v ∧ a' = a + 8 ∧ L.drop a = be 8 v ++ L.drop (a + 8) := by
  rcases rf_cases h with ⟨h1, _⟩ | ⟨_, _, h3, h4, h5, h6, h7⟩
  · exact absurd he h1
  · refine ⟨⟨h6, h7⟩, h3, ?_⟩
    have hl : ((L.drop a).take 8).length = 8 := by rw [List.length_take, List.length_drop]; omega
    have := be_hiN ((L.drop a).take 8)
    rw [hl] at this
    rw [h5, this, ← List.drop_drop, List.take_append_drop]
theorem rend_0 {n a : Nat} {e : Int} (h : rendP n a e = 0) : e = 0 ∧ n ≤ a := by
  unfold rendP at h
  split at h
  · cases h
  · rename_i h1
    exact ⟨h, by omega⟩
theorem tk_one {T : List UInt8} {x : UInt8} {R t : List UInt8} {ok : Bool} {a : Nat} {e : Int} (hT : T = x :: R) (h : tk T 0 0 1 = (t, ok, a, e)) : t = [x] ∧ ok = true ∧ a = 1 ∧ e = 0 := by
  subst hT
  rw [tk_ok (by simp)] at h
  injection h with h1 h; injection h with h2 h; injection h with h3 h4
  exact ⟨h1.symm, h2.symm, h3.symm, h4.symm⟩
section
variable {ro : Addr → A → Prop}
theorem kind_2 (T : List UInt8) (hT : T.length ≤ 39) {K : V → Hp → Prop} (hK1 : ∀ u, Can u → T = be 8 u → K (.a (.int .u8 2)) []) (hK0 : ¬ IsVa (2 :: T) → K (.a (.int .u8 0)) []) :
    Go.Eng.Fn Tryd.prog ro 24 [.a (.str (bs (2 :: T)))] [] K := by
  refine kind_real T hT (fun v a e hv k hk => ?_)
  by_cases h0 : rendP T.length a e = 0
  · rw [if_pos h0] at hk
    subst hk
    obtain ⟨h1, h2⟩ := rend_0 h0
    obtain ⟨h3, h4, h5⟩ := rf_conv hv h1
    have h9 : T.drop (0 + 8) = [] := List.drop_eq_nil_of_le (by omega)
    rw [h9, List.append_nil] at h5
    exact hK1 v h3 h5
  · rw [if_neg h0] at hk
    subst hk
    refine hK0 (fun hV => ?_)
    obtain ⟨u, hu, rfl⟩ := isVa_2 hV
    rw [rf_be hu.1 hu.2] at hv
    injection hv with _ hv; injection hv with h1 h2
    rw [← h1, ← h2, be_length, rend_ok] at h0
    exact h0 rfl
theorem kind_5 (T : List UInt8) (hT : T.length ≤ 39) {K : V → Hp → Prop} (hK1 : ∀ u w, Can u → Can w → T = be 8 u ++ be 8 w → K (.a (.int .u8 5)) []) (hK0 : ¬ IsVa (5 :: T) → K (.a (.int .u8 0)) []) :
    Go.Eng.Fn Tryd.prog ro 24 [.a (.str (bs (5 :: T)))] [] K := by
  refine kind_corner T hT (fun v a e hv v' a' e' hv' k hk => ?_)
  by_cases h0 : rendP T.length a' e' = 0
  · rw [if_pos h0] at hk
    subst hk
    obtain ⟨h1, h2⟩ := rend_0 h0
    have he : e = 0 := by
      rcases rf_cases hv' with ⟨hh, _⟩ | ⟨hh, _⟩
      · exact absurd h1 hh
      · exact hh
    obtain ⟨h3, h4, h5⟩ := rf_conv hv he
    subst he
    obtain ⟨h6, h7, h8⟩ := rf_conv hv' h1
    have h9 : T.drop (a + 8) = [] := List.drop_eq_nil_of_le (by omega)
    rw [h9, List.append_nil] at h8
    rw [List.drop_zero, Nat.zero_add] at h5
    rw [h4, Nat.zero_add] at h8
    rw [h8] at h5
    exact hK1 v v' h3 h6 h5
  · rw [if_neg h0] at hk
    subst hk
    refine hK0 (fun hV => ?_)
    obtain ⟨u, w, hu, hw, rfl⟩ := isVa_5 hV
    have hl : (be 8 u ++ be 8 w).length = 16 := by rw [List.length_append, be_length, be_length]
    rw [rf_be1 hu.1 hu.2] at hv
    injection hv with _ hv; injection hv with h1 h2
    rw [← h1, ← h2, rf_be2 hw.1 hw.2] at hv'
    injection hv' with _ hv'; injection hv' with h1 h2
    rw [← h1, ← h2, hl, rend_ok] at h0
    exact h0 rfl
theorem kind_3 (T : List UInt8) (hT : T.length ≤ 39) {K : V → Hp → Prop} (hK1 : ∀ c, Ct c → T = encC c 6 → K (.a (.int .u8 3)) []) (hK0 : ¬ IsVa (3 :: T) → K (.a (.int .u8 0)) []) :
    Go.Eng.Fn Tryd.prog ro 24 [.a (.str (bs (3 :: T)))] [] K := by
  refine kind_tally T hT (fun k hk => ?_)
  obtain ⟨⟨c, ok⟩, ht⟩ : ∃ q, tallyP T = q := ⟨_, rfl⟩
  rw [ht] at hk
  cases ok with
  | true =>
    obtain ⟨h1, h2⟩ := tally_conv ht
    subst hk
    exact hK1 c h1 h2
  | false =>
    subst hk
    refine hK0 (fun hV => ?_)
    obtain ⟨c', hc', rfl⟩ := isVa_3 hV
    rw [tallyP_enc hc'] at ht
    injection ht with _ ht
    cases ht
set_option maxHeartbeats 1000000 in
theorem kind_4 (T : List UInt8) (hT : T.length ≤ 39) {K : V → Hp → Prop} (hK1 : ∀ rs, AllV rs → Rise rs → T = flat rs → K (.a (.int .u8 4)) []) (hK0 : ¬ IsVa (4 :: T) → K (.a (.int .u8 0)) []) :
    Go.Eng.Fn Tryd.prog ro 24 [.a (.str (bs (4 :: T)))] [] K := by
  obtain ⟨hb, hhb⟩ : ∃ b : UInt8, b = 4 := ⟨_, rfl⟩
  rw [← hhb] at hK0 ⊢
  have hsz := bs_size (hb :: T)
  have g0 : byteAt (bs (hb :: T)) 0 = some hb := byteAt_bs (i := 0) rfl
  have hx : (bs (hb :: T)).extract (Int.toNat 1) (bs (hb :: T)).size = bs T := by
    rw [bs_extract, hsz]
    congr 1
    show List.take ((hb :: T).length - 1) (List.drop 1 (hb :: T)) = T
    rw [List.drop_succ_cons, List.drop_zero, List.length_cons, Nat.add_sub_cancel, List.take_of_length_le (Nat.le_refl _)]
  have c0 : ((bs (hb :: T)).data.toList == ([] : List UInt8)) = false := rfl
  rw [List.length_cons] at hsz
  have c1 : decide (((bs (hb :: T)).size : Int) > 40) = false := decide_eq_false (by omega)
  have c2 : decide ((0 : Int) ≤ 1 ∧ (1 : Int) ≤ ((bs (hb :: T)).size : Int)) = true := decide_eq_true (by omega)
  generalize bs (hb :: T) = s at *
  refine Fn.weak ?_
  refine Fn.of_code (gOf []) Tryd.func24 rfl (Nat.le_of_ble_eq_true rfl) ?_
  rw [hhb] at g0 hK0
  conv => whnf
  repeat' ((first | (with_reducible refine y'b ‹_› ?_) | fail) <;> (conv => whnf))
  rw [hx]
  refine Fn.frame [] (by rfl) (by exact trivial) (by rfl) (newReader T ?_)
  conv => whnf
  repeat' ((first | (with_reducible refine y'b ‹_› ?_) | ((with_reducible apply y'o); (· first | exact g0 | exact g1 | exact g2)) | fail) <;> (conv => whnf))
  rw [hx]
  refine Fn.frame [] (by rfl) (by exact trivial) (by rfl) (risen1 T (by omega) (fun b hbb => ?_))
  cases b with
  | true =>
    obtain ⟨rs, h1, h2, h3⟩ := hbb.1 rfl
    have hk := hK1 rs h1 h2 h3
    conv => whnf
    skip
    exact keepOf (v₀ := .a (.int .u8 4)) [] [] rfl trivial rfl hk
  | false =>
    have hk := hK0 (fun hV => by
      obtain ⟨rs, h1, h2, h3⟩ := isVa_4 hV
      have := hbb.2 ⟨rs, h1, h2, h3⟩
      cases this)
    conv => whnf
    skip
    exact keepOf (v₀ := .a (.int .u8 0)) [] [] rfl trivial rfl hk
set_option maxHeartbeats 1000000 in
theorem kind_6 (hb : UInt8) (T : List UInt8) (hT : T.length ≤ 39) (h1 : hb ≠ 1) (h2 : hb ≠ 2) (h3 : hb ≠ 3) (h4 : hb ≠ 4) (h5 : hb ≠ 5) {K : V → Hp → Prop} (hK0 : K (.a (.int .u8 0)) []) :
    Go.Eng.Fn Tryd.prog ro 24 [.a (.str (bs (hb :: T)))] [] K := by
  have d : ∀ n : UInt8, hb ≠ n → ((hb.toNat : Int) == (n.toNat : Int)) = false := fun n hn => by
    simp only [beq_eq_false_iff_ne, ne_eq]
    intro e
    exact hn (UInt8.toNat_inj.1 (by omega))
  have d1 : ((hb.toNat : Int) == 1) = false := d 1 h1
  have d2 : ((hb.toNat : Int) == 2) = false := d 2 h2
  have d3 : ((hb.toNat : Int) == 3) = false := d 3 h3
  have d4 : ((hb.toNat : Int) == 4) = false := d 4 h4
  have d5 : ((hb.toNat : Int) == 5) = false := d 5 h5
  have hsz := bs_size (hb :: T)
  have g0 : byteAt (bs (hb :: T)) 0 = some hb := byteAt_bs (i := 0) rfl
  have hx : (bs (hb :: T)).extract (Int.toNat 1) (bs (hb :: T)).size = bs T := by
    rw [bs_extract, hsz]
    congr 1
    show List.take ((hb :: T).length - 1) (List.drop 1 (hb :: T)) = T
    rw [List.drop_succ_cons, List.drop_zero, List.length_cons, Nat.add_sub_cancel, List.take_of_length_le (Nat.le_refl _)]
  have c0 : ((bs (hb :: T)).data.toList == ([] : List UInt8)) = false := rfl
  rw [List.length_cons] at hsz
  have c1 : decide (((bs (hb :: T)).size : Int) > 40) = false := decide_eq_false (by omega)
  have c2 : decide ((0 : Int) ≤ 1 ∧ (1 : Int) ≤ ((bs (hb :: T)).size : Int)) = true := decide_eq_true (by omega)
  generalize bs (hb :: T) = s at *
  refine Fn.weak ?_
  refine Fn.of_code (gOf []) Tryd.func24 rfl (Nat.le_of_ble_eq_true rfl) ?_
  conv => whnf
  repeat' ((first | (with_reducible refine y'b ‹_› ?_) | fail) <;> (conv => whnf))
  rw [hx]
  refine Fn.frame [] (by rfl) (by exact trivial) (by rfl) (newReader T ?_)
  conv => whnf
  repeat' ((first | (with_reducible refine y'b ‹_› ?_) | ((with_reducible apply y'o); (· first | exact g0 | exact g1 | exact g2)) | fail) <;> (conv => whnf))
  exact keepOf (v₀ := .a (.int .u8 0)) [] [] rfl trivial rfl hK0
set_option maxHeartbeats 8000000 in
theorem kind_1 (T : List UInt8) (hT : T.length ≤ 39) {K : V → Hp → Prop} (hK1 : (T = [0] ∨ T = [1]) → K (.a (.int .u8 1)) []) (hK0 : ¬ IsVa (1 :: T) → K (.a (.int .u8 0)) []) :
    Go.Eng.Fn Tryd.prog ro 24 [.a (.str (bs (1 :: T)))] [] K := by
  have hcase : T.length = 0 ∨ (∃ x R, T = x :: R ∧ T.length ≠ 0) := by
    cases T with
    | nil => exact .inl rfl
    | cons x R => exact .inr ⟨x, R, rfl, by simp⟩
  obtain ⟨hb, hhb⟩ : ∃ b : UInt8, b = 1 := ⟨_, rfl⟩
  rw [← hhb] at hK0 ⊢
  have hsz := bs_size (hb :: T)
  have g0 : byteAt (bs (hb :: T)) 0 = some hb := byteAt_bs (i := 0) rfl
  have hx : (bs (hb :: T)).extract (Int.toNat 1) (bs (hb :: T)).size = bs T := by
    rw [bs_extract, hsz]
    congr 1
    show List.take ((hb :: T).length - 1) (List.drop 1 (hb :: T)) = T
    rw [List.drop_succ_cons, List.drop_zero, List.length_cons, Nat.add_sub_cancel, List.take_of_length_le (Nat.le_refl _)]
  have c0 : ((bs (hb :: T)).data.toList == ([] : List UInt8)) = false := rfl
  rw [List.length_cons] at hsz
  have c1 : decide (((bs (hb :: T)).size : Int) > 40) = false := decide_eq_false (by omega)
  have c2 : decide ((0 : Int) ≤ 1 ∧ (1 : Int) ≤ ((bs (hb :: T)).size : Int)) = true := decide_eq_true (by omega)
  generalize bs (hb :: T) = s at *
  refine Fn.weak ?_
  refine Fn.of_code (gOf []) Tryd.func24 rfl (Nat.le_of_ble_eq_true rfl) ?_
  rw [hhb] at g0 hK0
  conv => whnf
  repeat' ((first | (with_reducible refine y'b ‹_› ?_) | fail) <;> (conv => whnf))
  rw [hx]
  refine Fn.frame [] (by rfl) (by exact trivial) (by rfl) (newReader T ?_)
  conv => whnf
  repeat' ((first | ((with_reducible apply y'o); (· first | exact g0 | exact g1 | exact g2)) | fail) <;> (conv => whnf))
  refine Fn.frame [0] (by rfl) (by exact ⟨rfl, trivial⟩) (by rfl) (rbyte T 0 0 (Nat.zero_le _) (by omega) (fun t ok a e ht => ?_))
  rcases hcase with hn | ⟨x, R, hxR, hn⟩
  · rw [tk_short (by omega)] at ht
    obtain ⟨rfl, rfl, rfl, rfl⟩ : [] = t ∧ false = ok ∧ 0 = a ∧ 10 = e := by simpa using ht
    have hk := hK0 (fun hV => by rcases isVa_1 hV with h | h <;> (rw [h] at hn; cases hn))
    rw [hiN_nil]
    conv => whnf
    skip
    refine Fn.frame [0] (by rfl) (by exact ⟨rfl, trivial⟩) (by rfl) (rend T 0 10 ?_)
    have h10 : rendP T.length 0 10 = 10 := by unfold rendP; rw [if_neg (by simp)]
    rw [h10]
    conv => whnf
    skip
    refine ⟨.a (.int .u8 0), [], [], ?_, ?_, ?_, ?_⟩
    · rfl
    · trivial
    · rfl
    · exact hk
  · obtain ⟨e1, e2, e3, e4⟩ := tk_one hxR ht
    rw [e1, e3, e4]
    clear ht e1 e2 e3 e4 t ok a e
    have hx1 : (UInt8.ofNat (hiN [x])).toNat = x.toNat := by rw [hiN_cons, hiN_nil]; simp
    rw [hx1]
    by_cases hx2 : 1 < x.toNat
    · have d1 : decide ((x.toNat : Int) > 1) = true := decide_eq_true (by omega)
      have hk := hK0 (fun hV => by rcases isVa_1 hV with h | h <;> (rw [hxR] at h; injection h with h _; subst h; revert hx2; decide))
      conv => whnf
      repeat' ((first | (with_reducible refine y'b ‹_› ?_) | fail) <;> (conv => whnf))
      exact keepOf (v₀ := .a (.int .u8 0)) [] [] rfl trivial rfl hk
    · have d1 : decide ((x.toNat : Int) > 1) = false := decide_eq_false (by omega)
      conv => whnf
      repeat' ((first | (with_reducible refine y'b ‹_› ?_) | fail) <;> (conv => whnf))
      refine Fn.frame [0] (by rfl) (by exact ⟨rfl, trivial⟩) (by rfl) (rend T 1 0 ?_)
      by_cases hR : T.length = 1
      · have h10 : rendP T.length 1 0 = 0 := by unfold rendP; rw [if_neg (by omega)]
        have hk := hK1 (by
          have hRn : R = [] := by rw [hxR] at hR; simpa using hR
          rw [hxR, hRn]
          have : x.toNat = 0 ∨ x.toNat = 1 := by omega
          rcases this with h | h
          · exact .inl (by rw [show x = 0 from UInt8.toNat_inj.1 h])
          · exact .inr (by rw [show x = 1 from UInt8.toNat_inj.1 h]))
        rw [h10]
        conv => whnf
        repeat' ((first | ((with_reducible apply y'o); (· first | exact g0 | exact g1 | exact g2)) | fail) <;> (conv => whnf))
        exact keepOf (v₀ := .a (.int .u8 1)) [] [] rfl trivial rfl hk
      · have h10 : rendP T.length 1 0 = 12 := by unfold rendP; rw [if_pos ⟨rfl, by omega⟩]
        have hk := hK0 (fun hV => by rcases isVa_1 hV with h | h <;> (rw [h] at hR; exact hR rfl))
        rw [h10]
        conv => whnf
        skip
        exact keepOf (v₀ := .a (.int .u8 0)) [] [] rfl trivial rfl hk
set_option maxHeartbeats 400000 in
theorem kind_nil {K : V → Hp → Prop} (hK0 : K (.a (.int .u8 0)) []) :
    Go.Eng.Fn Tryd.prog ro 24 [.a (.str (bs []))] [] K := by
  refine Fn.weak ?_
  refine Fn.of_code (gOf []) Tryd.func24 rfl (Nat.le_of_ble_eq_true rfl) ?_
  conv => whnf
  skip
  exact keepOf (v₀ := .a (.int .u8 0)) [] [] rfl trivial rfl hK0
set_option maxHeartbeats 400000 in
theorem kind_big (hb : UInt8) (T : List UInt8) (hT : 40 ≤ T.length) {K : V → Hp → Prop} (hK0 : K (.a (.int .u8 0)) []) :
    Go.Eng.Fn Tryd.prog ro 24 [.a (.str (bs (hb :: T)))] [] K := by
  have hsz := bs_size (hb :: T)
  have c0 : ((bs (hb :: T)).data.toList == ([] : List UInt8)) = false := rfl
  rw [List.length_cons] at hsz
  have c1 : decide (((bs (hb :: T)).size : Int) > 40) = true := decide_eq_true (by omega)
  generalize bs (hb :: T) = s at *
  refine Fn.weak ?_
  refine Fn.of_code (gOf []) Tryd.func24 rfl (Nat.le_of_ble_eq_true rfl) ?_
  conv => whnf
  repeat' ((first | (with_reducible refine y'b ‹_› ?_) | fail) <;> (conv => whnf))
  exact keepOf (v₀ := .a (.int .u8 0)) [] [] rfl trivial rfl hK0
/-- Kind: of whatever bytes. -/
theorem kindAll (L : List UInt8) {K : V → Hp → Prop} (hK1 : ∀ v : Va, v.ok → L = v.bytes → K (.a (.int .u8 (v.kind.toNat : Int))) []) (hK0 : ¬ IsVa L → K (.a (.int .u8 0)) []) :
    Go.Eng.Fn Tryd.prog ro 24 [.a (.str (bs L))] [] K := by
  match L with
  | [] => exact kind_nil (hK0 isVa_nil)
  | b :: T =>
    by_cases h40 : 40 ≤ T.length
    · exact kind_big b T h40 (hK0 (isVa_big (by rw [List.length_cons]; omega)))
    have hT : T.length ≤ 39 := by omega
    by_cases h1 : b = 1
    · subst h1
      refine kind_1 T hT (fun h => ?_) hK0
      rcases h with rfl | rfl
      · exact hK1 (.flag false) trivial rfl
      · exact hK1 (.flag true) trivial rfl
    by_cases h2 : b = 2
    · subst h2
      refine kind_2 T hT (fun u hu h => ?_) hK0
      subst h
      exact hK1 (.real u) hu rfl
    by_cases h3 : b = 3
    · subst h3
      refine kind_3 T hT (fun u hu h => ?_) hK0
      subst h
      exact hK1 (.tally u) hu rfl
    by_cases h4 : b = 4
    · subst h4
      refine kind_4 T hT (fun rs hv hr h => ?_) hK0
      subst h
      exact hK1 (.runes rs) ⟨hv, hr, hT⟩ rfl
    by_cases h5 : b = 5
    · subst h5
      refine kind_5 T hT (fun u w hu hw h => ?_) hK0
      subst h
      exact hK1 (.corner u w) ⟨hu, hw⟩ rfl
    exact kind_6 b T hT h1 h2 h3 h4 h5 (hK0 (isVa_head h1 h2 h3 h4 h5))
end
end Go.Proofs.YtimddbgnaeeggaaDoor.KD
