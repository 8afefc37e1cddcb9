import Derived.Test.YtimddbgnaeeggaaDoorKR
import Derived.Test.YtimddbgnaeeggaaDoorKU
namespace Go.Proofs.YtimddbgnaeeggaaDoor.KD
open Go.Eng
set_option maxRecDepth 100000
theorem allv_nil : AllV [] := fun r h => by cases h
theorem flat_nil_drop (L : List UInt8) : flat [] ++ L.drop 0 = L := by rw [flat_nil]; rfl
theorem allv_snoc {rs : List Nat} {r : Nat} (h : AllV rs) (hr : vr r) : AllV (rs ++ [r]) := by
  intro x hx
  rcases List.mem_append.1 hx with hx | hx
  · exact h x hx
  · rw [List.mem_singleton.1 hx]; exact hr
theorem no_risen1 {L D : List UInt8} {rs : List Nat} (hv : AllV rs) (hfl : flat rs ++ D = L) (hD : D ≠ []) (h : decL D = none) : ¬ Risen L := by
  rintro ⟨rs', hv', hr', e⟩
  obtain ⟨rest, e1, e2⟩ := flat_prefix rs rs' D hv hv' (hfl.trans e)
  cases rest with
  | nil => rw [flat_nil] at e2; exact hD e2
  | cons r rest =>
    rw [e2, flat_cons, decL_enc (hv' r (by rw [e1]; simp))] at h
    cases h
theorem no_risen2 {L D : List UInt8} {rs : List Nat} {r n : Nat} (hv : AllV rs) (hfl : flat rs ++ D = L) (h : decL D = some (r, n)) (hl : (r : Int) ≤ lastR rs) : ¬ Risen L := by
  rintro ⟨rs', hv', hr', e⟩
  obtain ⟨rest, e1, e2⟩ := flat_prefix rs rs' D hv hv' (hfl.trans e)
  cases rest with
  | nil =>
    rw [e2, flat_nil] at h
    unfold decL at h
    cases h
  | cons r' rest =>
    rw [e2, flat_cons, decL_enc (hv' r' (by rw [e1]; simp))] at h
    injection h with h; injection h with h _
    subst h
    rw [e1] at hr'
    exact not_rise hl hr'
theorem take3 {D : List UInt8} (h : decL D = none) : D.take 3 ≠ [239, 191, 189] := by
  intro e
  have e2 : D = enc 65533 ++ D.drop 3 := by rw [enc_65533, ← e, List.take_append_drop]
  rw [e2, decL_enc (.inr (by decide))] at h
  cases h
theorem is3 (T : List UInt8) (b : Bool) (h : T = [239, 191, 189] ↔ b = false) : (!((bs T).data.toList == ({ data := #[239, 191, 189] } : ByteArray).data.toList)) = b := by
  show (!(T == [239, 191, 189])) = b
  cases b with
  | false => rw [h.2 rfl]; rfl
  | true =>
    have : T ≠ [239, 191, 189] := fun e => by have := h.1 e; cases this
    simp [this]
section
variable {ro : Addr → A → Prop}
set_option maxHeartbeats 1000000 in
theorem risen1 (L : List UInt8) (hL : L.length ≤ 1000) {K : V → Hp → Prop} (hK : ∀ b, (b = true ↔ Risen L) → K (.a (.bool b)) []) :
    Go.Eng.Fn Tryd.prog ro 53 [.a (.str (bs L))] [] K := by
  refine Fn.weak ?_
  refine Fn.of_code (gOf []) Tryd.func53 rfl (Nat.le_of_ble_eq_true rfl) ?_
  obtain ⟨s, hs⟩ : ∃ s, s = bs L := ⟨_, rfl⟩
  rw [← hs]
  have hsz : s.size = L.length := by rw [hs]; exact bs_size L
  conv => whnf
  repeat' ((first | ((with_reducible refine y'r ?_ ?_); (· decide +kernel)) | ((with_reducible refine y'g ?_ ?_); (· exact ⟨_, rfl⟩)) | (with_reducible first | refine y'b ‹_› ?_ | refine y'n ‹_› ?_ | refine y'1 ‹_› ?_ | refine y'2 ‹_› ?_ | refine y'3 ?_ | refine y'4 ?_) | ((with_reducible refine y'n ?_ ?_); (· first | assumption | exact decide_eq_true (by omega) | decide +kernel)) | ((with_reducible refine y'b ?_ ?_); (· assumption)) | (with_reducible first | refine y'n (y'7 ‹_› ‹_›) ?_ | refine y'v (y'8 ‹_› ‹_›) (fun s hs => ?_)) | ((with_reducible apply y'o); (· first | exact g0 | exact g1 | exact g2)) | fail) <;> (conv => whnf))
  refine loopx_of (fun m F H => ∃ (a : Nat) (rs : List Nat), a ≤ L.length ∧ m = L.length - a ∧ AllV rs ∧ Rise rs ∧ flat rs ++ L.drop a = L ∧ F = [(0, .a (.str s)), (3, .a (.int .i32 (lastR rs))), (7, .a (.ptr 0 0))] ∧ H = [.iter s a]) L.length ?_ ?_
  · exact Into.weak [0] [(0, .a (.str s)), (3, .a (.int .i32 (-1))), (7, .a (.ptr 0 0))] [.iter s 0] ⟨0, [], Nat.zero_le _, rfl, allv_nil, List.Pairwise.nil, flat_nil_drop L, by rw [lastR_nil], rfl⟩ ⟨rfl, rfl, rfl, trivial⟩ ⟨rfl, trivial⟩ rfl
  · rintro m F H ⟨a, rs, ha, rfl, hv, hrise, hfl, rfl, rfl⟩
    obtain ⟨l, hl⟩ : ∃ l, l = lastR rs := ⟨_, rfl⟩
    rw [← hl]
    conv => whnf
    repeat' ((first | ((with_reducible refine y'r ?_ ?_); (· decide +kernel)) | ((with_reducible refine y'g ?_ ?_); (· exact ⟨_, rfl⟩)) | (with_reducible first | refine y'b ‹_› ?_ | refine y'n ‹_› ?_ | refine y'1 ‹_› ?_ | refine y'2 ‹_› ?_ | refine y'3 ?_ | refine y'4 ?_) | ((with_reducible refine y'n ?_ ?_); (· first | assumption | exact decide_eq_true (by omega) | decide +kernel)) | ((with_reducible refine y'b ?_ ?_); (· assumption)) | (with_reducible first | refine y'n (y'7 ‹_› ‹_›) ?_ | refine y'v (y'8 ‹_› ‹_›) (fun s hs => ?_)) | ((with_reducible apply y'o); (· first | exact g0 | exact g1 | exact g2)) | fail) <;> (conv => whnf))
    refine y'c (fun h => ?_) (fun h => ?_)
    · have hlt : a < L.length := by have := of_decide_eq_true h; omega
      obtain ⟨hra, hrw⟩ := runeAt_bs L hlt
      rw [← hs] at hra hrw
      have hdl : (L.drop a).length = L.length - a := List.length_drop
      have hdn : L.drop a ≠ [] := fun e => by rw [e] at hdl; simp at hdl; omega
      have e1 : IntKind.i64.wrap ((s.size : Int) - (a : Int)) = ((L.length - a : Nat) : Int) := by rw [i64w (by omega) (by omega)]; omega
      have e2 : IntKind.i64.wrap ((a : Int) + 3) = ((a + 3 : Nat) : Int) := by rw [i64w (by omega) (by omega)]; omega
      have e3 : s.extract (Int.toNat (a : Int)) (Int.toNat ((a + 3 : Nat) : Int)) = bs ((L.drop a).take 3) := by
        rw [hs, bs_extract]
        congr 2
        omega
      cases hd : decL (L.drop a) with
      | none =>
        have hnr := no_risen1 hv hfl hdn hd
        have hk := hK false (iff_of_false (by decide) hnr)
        rw [hd] at hra hrw
        generalize runeAt s a = ra at *
        generalize runeW s a = w at *
        obtain rfl : ra = 65533 := hra
        conv => whnf
        repeat' ((first | ((with_reducible refine y'r ?_ ?_); (· decide +kernel)) | ((with_reducible refine y'g ?_ ?_); (· exact ⟨_, rfl⟩)) | (with_reducible first | refine y'b ‹_› ?_ | refine y'n ‹_› ?_ | refine y'1 ‹_› ?_ | refine y'2 ‹_› ?_ | refine y'3 ?_ | refine y'4 ?_) | ((with_reducible refine y'n ?_ ?_); (· first | assumption | exact decide_eq_true (by omega) | decide +kernel)) | ((with_reducible refine y'b ?_ ?_); (· assumption)) | (with_reducible first | refine y'n (y'7 ‹_› ‹_›) ?_ | refine y'v (y'8 ‹_› ‹_›) (fun s hs => ?_)) | ((with_reducible apply y'o); (· first | exact g0 | exact g1 | exact g2)) | fail) <;> (conv => whnf))
        rw [e1]
        by_cases h3 : L.length - a < 3
        · have c1 : decide (((L.length - a : Nat) : Int) < 3) = true := decide_eq_true (by omega)
          conv => whnf
          repeat' ((first | ((with_reducible refine y'r ?_ ?_); (· decide +kernel)) | ((with_reducible refine y'g ?_ ?_); (· exact ⟨_, rfl⟩)) | (with_reducible first | refine y'b ‹_› ?_ | refine y'n ‹_› ?_ | refine y'1 ‹_› ?_ | refine y'2 ‹_› ?_ | refine y'3 ?_ | refine y'4 ?_) | ((with_reducible refine y'n ?_ ?_); (· first | assumption | exact decide_eq_true (by omega) | decide +kernel)) | ((with_reducible refine y'b ?_ ?_); (· assumption)) | (with_reducible first | refine y'n (y'7 ‹_› ‹_›) ?_ | refine y'v (y'8 ‹_› ‹_›) (fun s hs => ?_)) | ((with_reducible apply y'o); (· first | exact g0 | exact g1 | exact g2)) | fail) <;> (conv => whnf))
          exact keepOf (v₀ := .a (.bool false)) [] [] rfl trivial rfl hk
        · have c1 : decide (((L.length - a : Nat) : Int) < 3) = false := decide_eq_false (by omega)
          have c3 : (!((s.extract (Int.toNat (a : Int)) (Int.toNat ((a + 3 : Nat) : Int))).data.toList == ({ data := #[239, 191, 189] } : ByteArray).data.toList)) = true := by rw [e3]; exact is3 _ _ (iff_of_false (take3 hd) (by decide))
          conv => whnf
          repeat' ((first | ((with_reducible refine y'r ?_ ?_); (· decide +kernel)) | ((with_reducible refine y'g ?_ ?_); (· exact ⟨_, rfl⟩)) | (with_reducible first | refine y'b ‹_› ?_ | refine y'n ‹_› ?_ | refine y'1 ‹_› ?_ | refine y'2 ‹_› ?_ | refine y'3 ?_ | refine y'4 ?_) | ((with_reducible refine y'n ?_ ?_); (· first | assumption | exact decide_eq_true (by omega) | decide +kernel)) | ((with_reducible refine y'b ?_ ?_); (· assumption)) | (with_reducible first | refine y'n (y'7 ‹_› ‹_›) ?_ | refine y'v (y'8 ‹_› ‹_›) (fun s hs => ?_)) | ((with_reducible apply y'o); (· first | exact g0 | exact g1 | exact g2)) | fail) <;> (conv => whnf))
          rw [e2]
          conv => whnf
          repeat' ((first | ((with_reducible refine y'r ?_ ?_); (· decide +kernel)) | ((with_reducible refine y'g ?_ ?_); (· exact ⟨_, rfl⟩)) | (with_reducible first | refine y'b ‹_› ?_ | refine y'n ‹_› ?_ | refine y'1 ‹_› ?_ | refine y'2 ‹_› ?_ | refine y'3 ?_ | refine y'4 ?_) | ((with_reducible refine y'n ?_ ?_); (· first | assumption | exact decide_eq_true (by omega) | decide +kernel)) | ((with_reducible refine y'b ?_ ?_); (· assumption)) | (with_reducible first | refine y'n (y'7 ‹_› ‹_›) ?_ | refine y'v (y'8 ‹_› ‹_›) (fun s hs => ?_)) | ((with_reducible apply y'o); (· first | exact g0 | exact g1 | exact g2)) | fail) <;> (conv => whnf))
          exact keepOf (v₀ := .a (.bool false)) [] [] rfl trivial rfl hk
      | some p =>
        obtain ⟨r, n⟩ := p
        obtain ⟨hvr, hn, hD⟩ := decL_sound hd
        have hnp := enc_pos r
        have hnl : a + n ≤ L.length := by
          have := congrArg List.length hD
          rw [List.length_append, List.length_drop, ← hn, List.length_drop] at this
          omega
        have hfl2 : flat (rs ++ [r]) ++ L.drop (a + n) = L := by
          rw [flat_append, flat_one, List.append_assoc, ← List.drop_drop, ← hD]; exact hfl
        rw [hd] at hra hrw
        generalize runeAt s a = ra at *
        generalize runeW s a = w at *
        obtain rfl : ra = r := hra
        obtain rfl : w = n := hrw
        by_cases hr3 : ra = 65533
        · have h3 : w = 3 := by rw [hn, hr3, enc_65533]; rfl
          have ht3 : (L.drop a).take 3 = [239, 191, 189] := by
            rw [hD, List.take_left' (by rw [← hn]; exact h3), hr3, enc_65533]
          have c0 : ((ra : Int) == 65533) = true := by rw [hr3]; rfl
          have c3 : (!((s.extract (Int.toNat (a : Int)) (Int.toNat ((a + 3 : Nat) : Int))).data.toList == ({ data := #[239, 191, 189] } : ByteArray).data.toList)) = false := by rw [e3]; exact is3 _ _ (iff_of_true ht3 rfl)
          have c1 : decide (((L.length - a : Nat) : Int) < 3) = false := decide_eq_false (by omega)
          conv => whnf
          repeat' ((first | ((with_reducible refine y'r ?_ ?_); (· decide +kernel)) | ((with_reducible refine y'g ?_ ?_); (· exact ⟨_, rfl⟩)) | (with_reducible first | refine y'b ‹_› ?_ | refine y'n ‹_› ?_ | refine y'1 ‹_› ?_ | refine y'2 ‹_› ?_ | refine y'3 ?_ | refine y'4 ?_) | ((with_reducible refine y'n ?_ ?_); (· first | assumption | exact decide_eq_true (by omega) | decide +kernel)) | ((with_reducible refine y'b ?_ ?_); (· assumption)) | (with_reducible first | refine y'n (y'7 ‹_› ‹_›) ?_ | refine y'v (y'8 ‹_› ‹_›) (fun s hs => ?_)) | ((with_reducible apply y'o); (· first | exact g0 | exact g1 | exact g2)) | fail) <;> (conv => whnf))
          rw [e1]
          conv => whnf
          repeat' ((first | ((with_reducible refine y'r ?_ ?_); (· decide +kernel)) | ((with_reducible refine y'g ?_ ?_); (· exact ⟨_, rfl⟩)) | (with_reducible first | refine y'b ‹_› ?_ | refine y'n ‹_› ?_ | refine y'1 ‹_› ?_ | refine y'2 ‹_› ?_ | refine y'3 ?_ | refine y'4 ?_) | ((with_reducible refine y'n ?_ ?_); (· first | assumption | exact decide_eq_true (by omega) | decide +kernel)) | ((with_reducible refine y'b ?_ ?_); (· assumption)) | (with_reducible first | refine y'n (y'7 ‹_› ‹_›) ?_ | refine y'v (y'8 ‹_› ‹_›) (fun s hs => ?_)) | ((with_reducible apply y'o); (· first | exact g0 | exact g1 | exact g2)) | fail) <;> (conv => whnf))
          rw [e2]
          conv => whnf
          repeat' ((first | ((with_reducible refine y'r ?_ ?_); (· decide +kernel)) | ((with_reducible refine y'g ?_ ?_); (· exact ⟨_, rfl⟩)) | (with_reducible first | refine y'b ‹_› ?_ | refine y'n ‹_› ?_ | refine y'1 ‹_› ?_ | refine y'2 ‹_› ?_ | refine y'3 ?_ | refine y'4 ?_) | ((with_reducible refine y'n ?_ ?_); (· first | assumption | exact decide_eq_true (by omega) | decide +kernel)) | ((with_reducible refine y'b ?_ ?_); (· assumption)) | (with_reducible first | refine y'n (y'7 ‹_› ‹_›) ?_ | refine y'v (y'8 ‹_› ‹_›) (fun s hs => ?_)) | ((with_reducible apply y'o); (· first | exact g0 | exact g1 | exact g2)) | fail) <;> (conv => whnf))
          by_cases hrl : (ra : Int) ≤ l
          · have c2 : decide ((ra : Int) ≤ l) = true := decide_eq_true hrl
            have hk := hK false (iff_of_false (by decide) (no_risen2 hv hfl hd (by rw [← hl]; exact hrl)))
            conv => whnf
            repeat' ((first | ((with_reducible refine y'r ?_ ?_); (· decide +kernel)) | ((with_reducible refine y'g ?_ ?_); (· exact ⟨_, rfl⟩)) | (with_reducible first | refine y'b ‹_› ?_ | refine y'n ‹_› ?_ | refine y'1 ‹_› ?_ | refine y'2 ‹_› ?_ | refine y'3 ?_ | refine y'4 ?_) | ((with_reducible refine y'n ?_ ?_); (· first | assumption | exact decide_eq_true (by omega) | decide +kernel)) | ((with_reducible refine y'b ?_ ?_); (· assumption)) | (with_reducible first | refine y'n (y'7 ‹_› ‹_›) ?_ | refine y'v (y'8 ‹_› ‹_›) (fun s hs => ?_)) | ((with_reducible apply y'o); (· first | exact g0 | exact g1 | exact g2)) | fail) <;> (conv => whnf))
            exact keepOf (v₀ := .a (.bool false)) [] [] rfl trivial rfl hk
          · have c2 : decide ((ra : Int) ≤ l) = false := decide_eq_false hrl
            conv => whnf
            repeat' ((first | ((with_reducible refine y'r ?_ ?_); (· decide +kernel)) | ((with_reducible refine y'g ?_ ?_); (· exact ⟨_, rfl⟩)) | (with_reducible first | refine y'b ‹_› ?_ | refine y'n ‹_› ?_ | refine y'1 ‹_› ?_ | refine y'2 ‹_› ?_ | refine y'3 ?_ | refine y'4 ?_) | ((with_reducible refine y'n ?_ ?_); (· first | assumption | exact decide_eq_true (by omega) | decide +kernel)) | ((with_reducible refine y'b ?_ ?_); (· assumption)) | (with_reducible first | refine y'n (y'7 ‹_› ‹_›) ?_ | refine y'v (y'8 ‹_› ‹_›) (fun s hs => ?_)) | ((with_reducible apply y'o); (· first | exact g0 | exact g1 | exact g2)) | fail) <;> (conv => whnf))
            exact ⟨L.length - (a + w), by omega, Into.weak [0] [(0, .a (.str s)), (3, .a (.int .i32 (ra : Int))), (7, .a (.ptr 0 0))] [.iter s (a + w)] ⟨a + w, rs ++ [ra], by omega, rfl, allv_snoc hv hvr, rise_snoc hrise (by omega), hfl2, by rw [lastR_snoc], rfl⟩ ⟨rfl, rfl, rfl, trivial⟩ ⟨rfl, trivial⟩ rfl⟩
        · have c0 : ((ra : Int) == 65533) = false := by simp; omega
          conv => whnf
          repeat' ((first | ((with_reducible refine y'r ?_ ?_); (· decide +kernel)) | ((with_reducible refine y'g ?_ ?_); (· exact ⟨_, rfl⟩)) | (with_reducible first | refine y'b ‹_› ?_ | refine y'n ‹_› ?_ | refine y'1 ‹_› ?_ | refine y'2 ‹_› ?_ | refine y'3 ?_ | refine y'4 ?_) | ((with_reducible refine y'n ?_ ?_); (· first | assumption | exact decide_eq_true (by omega) | decide +kernel)) | ((with_reducible refine y'b ?_ ?_); (· assumption)) | (with_reducible first | refine y'n (y'7 ‹_› ‹_›) ?_ | refine y'v (y'8 ‹_› ‹_›) (fun s hs => ?_)) | ((with_reducible apply y'o); (· first | exact g0 | exact g1 | exact g2)) | fail) <;> (conv => whnf))
          by_cases hrl : (ra : Int) ≤ l
          · have c2 : decide ((ra : Int) ≤ l) = true := decide_eq_true hrl
            have hk := hK false (iff_of_false (by decide) (no_risen2 hv hfl hd (by rw [← hl]; exact hrl)))
            conv => whnf
            repeat' ((first | ((with_reducible refine y'r ?_ ?_); (· decide +kernel)) | ((with_reducible refine y'g ?_ ?_); (· exact ⟨_, rfl⟩)) | (with_reducible first | refine y'b ‹_› ?_ | refine y'n ‹_› ?_ | refine y'1 ‹_› ?_ | refine y'2 ‹_› ?_ | refine y'3 ?_ | refine y'4 ?_) | ((with_reducible refine y'n ?_ ?_); (· first | assumption | exact decide_eq_true (by omega) | decide +kernel)) | ((with_reducible refine y'b ?_ ?_); (· assumption)) | (with_reducible first | refine y'n (y'7 ‹_› ‹_›) ?_ | refine y'v (y'8 ‹_› ‹_›) (fun s hs => ?_)) | ((with_reducible apply y'o); (· first | exact g0 | exact g1 | exact g2)) | fail) <;> (conv => whnf))
            exact keepOf (v₀ := .a (.bool false)) [] [] rfl trivial rfl hk
          · have c2 : decide ((ra : Int) ≤ l) = false := decide_eq_false hrl
            conv => whnf
            repeat' ((first | ((with_reducible refine y'r ?_ ?_); (· decide +kernel)) | ((with_reducible refine y'g ?_ ?_); (· exact ⟨_, rfl⟩)) | (with_reducible first | refine y'b ‹_› ?_ | refine y'n ‹_› ?_ | refine y'1 ‹_› ?_ | refine y'2 ‹_› ?_ | refine y'3 ?_ | refine y'4 ?_) | ((with_reducible refine y'n ?_ ?_); (· first | assumption | exact decide_eq_true (by omega) | decide +kernel)) | ((with_reducible refine y'b ?_ ?_); (· assumption)) | (with_reducible first | refine y'n (y'7 ‹_› ‹_›) ?_ | refine y'v (y'8 ‹_› ‹_›) (fun s hs => ?_)) | ((with_reducible apply y'o); (· first | exact g0 | exact g1 | exact g2)) | fail) <;> (conv => whnf))
            exact ⟨L.length - (a + w), by omega, Into.weak [0] [(0, .a (.str s)), (3, .a (.int .i32 (ra : Int))), (7, .a (.ptr 0 0))] [.iter s (a + w)] ⟨a + w, rs ++ [ra], by omega, rfl, allv_snoc hv hvr, rise_snoc hrise (by omega), hfl2, by rw [lastR_snoc], rfl⟩ ⟨rfl, rfl, rfl, trivial⟩ ⟨rfl, trivial⟩ rfl⟩
    · have hal : a = L.length := by have := of_decide_eq_false h; omega
      rw [hal, List.drop_length, List.append_nil] at hfl
      have hk := hK true (iff_of_true rfl ⟨rs, hv, hrise, hfl.symm⟩)
      conv => whnf
      repeat' ((first | ((with_reducible refine y'r ?_ ?_); (· decide +kernel)) | ((with_reducible refine y'g ?_ ?_); (· exact ⟨_, rfl⟩)) | (with_reducible first | refine y'b ‹_› ?_ | refine y'n ‹_› ?_ | refine y'1 ‹_› ?_ | refine y'2 ‹_› ?_ | refine y'3 ?_ | refine y'4 ?_) | ((with_reducible refine y'n ?_ ?_); (· first | assumption | exact decide_eq_true (by omega) | decide +kernel)) | ((with_reducible refine y'b ?_ ?_); (· assumption)) | (with_reducible first | refine y'n (y'7 ‹_› ‹_›) ?_ | refine y'v (y'8 ‹_› ‹_›) (fun s hs => ?_)) | ((with_reducible apply y'o); (· first | exact g0 | exact g1 | exact g2)) | fail) <;> (conv => whnf))
      exact keepOf (v₀ := .a (.bool true)) [] [] rfl trivial rfl hk
end
end Go.Proofs.YtimddbgnaeeggaaDoor.KD
