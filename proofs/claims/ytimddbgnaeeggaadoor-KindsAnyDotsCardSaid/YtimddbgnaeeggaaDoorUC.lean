import Derived.Test.YtimddbgnaeeggaaDoorUB
import Derived.Test.YtimddbgnaeeggaaDoorKS
namespace Go.Proofs.YtimddbgnaeeggaaDoor.KD
open Go.Eng
set_option maxRecDepth 100000
theorem decL_ascii {L : List UInt8} {r : Nat} (h : decL L = some (r, 1)) : ∃ b T, L = b :: T ∧ r = b.toNat ∧ b.toNat < 128 := by
  unfold decL at h
  match L, h with
  | b0 :: T, h =>
    simp only at h
    split at h
    · rename_i g
      injection h with h; injection h with h1 h2
      exact ⟨b0, T, rfl, h1.symm, g⟩
    · split at h
      · match T, h with
        | b1 :: T, h =>
          simp only at h
          split at h
          · injection h with h; injection h with h1 h2; cases h2
          · cases h
      · split at h
        · match T, h with
          | b1 :: b2 :: T, h =>
            simp only at h
            split at h
            · injection h with h; injection h with h1 h2; cases h2
            · cases h
        · split at h
          · match T, h with
            | b1 :: b2 :: b3 :: T, h =>
              simp only at h
              split at h
              · injection h with h; injection h with h1 h2; cases h2
              · cases h
          · cases h
section
variable {ro : Addr → A → Prop}
theorem slowA (hT : Tabs ro) (L : List UInt8) (hl : L.length ≤ 1000) {r n : Nat} (h : decL L = some (r, n)) (hn : n ≠ 1) {K : V → Hp → Prop}
    (hK : K (.t [.a (.int .i32 (r : Int)), .a (.int .i64 (n : Int))]) []) :
    Go.Eng.Fn Tryd.prog ro 115 [.a (.str (bs L))] [] K := by
  rcases decL_big h hn with ⟨b0, b1, T, rfl, rfl, rfl, h8, hc⟩ | ⟨b0, b1, b2, T, rfl, rfl, rfl, h8, hc, h2⟩ | ⟨b0, b1, b2, b3, T, rfl, rfl, rfl, h8, hc, h2, h3⟩
  · exact slow2 hT b0 b1 T (by simp only [List.length_cons] at hl; omega) h8 hc hK
  · exact slow3 hT b0 b1 b2 T (by simp only [List.length_cons] at hl; omega) h8 hc h2 hK
  · exact slow4 hT b0 b1 b2 b3 T (by simp only [List.length_cons] at hl; omega) h8 hc h2 h3 hK
set_option maxHeartbeats 1000000 in
/-- DecodeRuneInString, where a rune is at the head. -/
theorem decode1 (hT : Tabs ro) (L : List UInt8) (hl : L.length ≤ 1000) {r n : Nat} (h : decL L = some (r, n)) {K : V → Hp → Prop}
    (hK : K (.t [.a (.int .i32 (r : Int)), .a (.int .i64 (n : Int))]) []) :
    Go.Eng.Fn Tryd.prog ro 96 [.a (.str (bs L))] [] K := by
  by_cases hn : n = 1
  · subst hn
    obtain ⟨b, T, rfl, rfl, h8⟩ := decL_ascii h
    have g0 : byteAt (bs (b :: T)) 0 = some b := byteAt_bs (i := 0) rfl
    have g1 := True.intro
    have c0 : (!((bs (b :: T)).data.toList == ([] : List UInt8))) = true := rfl
    have c1 : decide ((b.toNat : Int) < 128) = true := decide_eq_true (by omega)
    have hw : IntKind.i32.wrap (b.toNat : Int) = (b.toNat : Int) := i32n (by omega)
    generalize bs (b :: T) = s at *
    refine Fn.weak ?_
    refine Fn.of_code (gOf []) Tryd.func96 rfl (Nat.le_of_ble_eq_true rfl) ?_
    conv => whnf
    repeat' ((first | ((with_reducible refine y'r ?_ ?_); (· decide +kernel)) | ((with_reducible refine y'g ?_ ?_); (· exact ⟨_, rfl⟩)) | (with_reducible first | refine y'b ‹_› ?_ | refine y'n ‹_› ?_ | refine y'1 ‹_› ?_ | refine y'2 ‹_› ?_ | refine y'3 ?_ | refine y'4 ?_) | ((with_reducible refine y'n ?_ ?_); (· first | assumption | exact decide_eq_true (by omega) | decide +kernel)) | ((with_reducible refine y'b ?_ ?_); (· assumption)) | (with_reducible first | refine y'n (y'7 ‹_› ‹_›) ?_ | refine y'v (y'8 ‹_› ‹_›) (fun s hs => ?_)) | ((with_reducible apply y'o); (· first | exact g0 | exact g1)) | ((with_reducible refine y'p ?_ ?_); (· rfl)) | ((with_reducible refine y'q ?_ ?_); (· rfl)) | fail) <;> (conv => whnf))
    rw [hw]
    exact keepOf (v₀ := .t [.a (.int .i32 (b.toNat : Int)), .a (.int .i64 1)]) [] [] rfl trivial rfl hK
  · have k := @slowA ro hT L hl r n h hn
    have hsz := bs_size L
    obtain ⟨b, T, hbT, h8⟩ : ∃ b T, L = b :: T ∧ 128 ≤ b.toNat := by
      rcases decL_big h hn with ⟨b0, b1, T, hL, _, _, h8, _⟩ | ⟨b0, b1, b2, T, hL, _, _, h8, _⟩ | ⟨b0, b1, b2, b3, T, hL, _, _, h8, _⟩ <;> exact ⟨b0, _, hL, h8⟩
    have g0 : byteAt (bs L) 0 = some b := by rw [hbT]; exact byteAt_bs (i := 0) rfl
    have g1 := True.intro
    have c0 : (!((bs L).data.toList == ([] : List UInt8))) = true := by rw [hbT]; rfl
    have c1 : decide ((b.toNat : Int) < 128) = false := decide_eq_false (by omega)
    generalize bs L = s at *
    refine Fn.weak ?_
    refine Fn.of_code (gOf []) Tryd.func96 rfl (Nat.le_of_ble_eq_true rfl) ?_
    conv => whnf
    repeat' ((first | ((with_reducible refine y'r ?_ ?_); (· decide +kernel)) | ((with_reducible refine y'g ?_ ?_); (· exact ⟨_, rfl⟩)) | (with_reducible first | refine y'b ‹_› ?_ | refine y'n ‹_› ?_ | refine y'1 ‹_› ?_ | refine y'2 ‹_› ?_ | refine y'3 ?_ | refine y'4 ?_) | ((with_reducible refine y'n ?_ ?_); (· first | assumption | exact decide_eq_true (by omega) | decide +kernel)) | ((with_reducible refine y'b ?_ ?_); (· assumption)) | (with_reducible first | refine y'n (y'7 ‹_› ‹_›) ?_ | refine y'v (y'8 ‹_› ‹_›) (fun s hs => ?_)) | ((with_reducible apply y'o); (· first | exact g0 | exact g1)) | ((with_reducible refine y'p ?_ ?_); (· rfl)) | ((with_reducible refine y'q ?_ ?_); (· rfl)) | fail) <;> (conv => whnf))
    refine Fn.frame [] (by rfl) (by exact trivial) (by rfl) (k ?_)
    conv => whnf
    repeat' ((first | ((with_reducible refine y'r ?_ ?_); (· decide +kernel)) | ((with_reducible refine y'g ?_ ?_); (· exact ⟨_, rfl⟩)) | (with_reducible first | refine y'b ‹_› ?_ | refine y'n ‹_› ?_ | refine y'1 ‹_› ?_ | refine y'2 ‹_› ?_ | refine y'3 ?_ | refine y'4 ?_) | ((with_reducible refine y'n ?_ ?_); (· first | assumption | exact decide_eq_true (by omega) | decide +kernel)) | ((with_reducible refine y'b ?_ ?_); (· assumption)) | (with_reducible first | refine y'n (y'7 ‹_› ‹_›) ?_ | refine y'v (y'8 ‹_› ‹_›) (fun s hs => ?_)) | ((with_reducible apply y'o); (· first | exact g0 | exact g1)) | ((with_reducible refine y'p ?_ ?_); (· rfl)) | ((with_reducible refine y'q ?_ ?_); (· rfl)) | fail) <;> (conv => whnf))
    exact keepOf (v₀ := .t [.a (.int .i32 (r : Int)), .a (.int .i64 (n : Int))]) [] [] rfl trivial rfl hK
end
end Go.Proofs.YtimddbgnaeeggaaDoor.KD
