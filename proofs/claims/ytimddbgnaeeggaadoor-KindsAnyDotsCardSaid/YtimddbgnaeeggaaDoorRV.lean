import Derived.Test.YtimddbgnaeeggaaDoorRU
import Derived.Test.YtimddbgnaeeggaaDoorKT
namespace Go.Proofs.YtimddbgnaeeggaaDoor.KD
open Go.Eng
set_option maxRecDepth 100000
/-- The number that a byte's low part and the bytes behind it are. -/
def cpR (M : Nat) (L : List UInt8) : Nat → Nat
  | 0 => (L.getD 0 0).toNat % M
  | i + 1 => 64 * cpR M L i + (L.getD (i + 1) 0).toNat % 64
def modR (n : Nat) : Nat := if n = 2 then 32 else if n = 3 then 16 else if n = 4 then 8 else 256
theorem cpR_lt (n : Nat) (L : List UInt8) : ∀ i, cpR (modR n) L i < 256 * 64 ^ i
  | 0 => by
    unfold cpR
    have := (L.getD 0 0).toNat_lt
    have := Nat.mod_le (L.getD 0 0).toNat (modR n)
    omega
  | i + 1 => by
    have := cpR_lt n L i
    unfold cpR
    rw [Nat.pow_succ]
    omega
/-- At the width of the rune at the head, that number is the rune. -/
theorem cpR_dec {L : List UInt8} {r n : Nat} (h : decL L = some (r, n)) : cpR (modR n) L (n - 1) = r ∧ 1 ≤ n ∧ n ≤ 4 ∧ n ≤ L.length := by
  unfold decL at h
  match L, h with
  | b0 :: T, h =>
    have l0 := b0.toNat_lt
    simp only at h
    split at h
    · injection h with h; injection h with h2 h3
      subst h2 h3
      refine ⟨?_, by decide, by decide, by simp⟩
      show b0.toNat % 256 = b0.toNat
      omega
    · split at h
      · match T, h with
        | b1 :: T, h =>
          simp only at h
          split at h
          · injection h with h; injection h with h4 h5
            subst h5
            refine ⟨?_, by decide, by decide, by simp⟩
            show 64 * (b0.toNat % 32) + b1.toNat % 64 = r
            omega
          · cases h
      · split at h
        · match T, h with
          | b1 :: b2 :: T, h =>
            simp only at h
            split at h
            · injection h with h; injection h with h4 h5
              subst h5
              refine ⟨?_, by decide, by decide, by simp⟩
              show 64 * (64 * (b0.toNat % 16) + b1.toNat % 64) + b2.toNat % 64 = r
              omega
            · cases h
        · split at h
          · match T, h with
            | b1 :: b2 :: b3 :: T, h =>
              simp only at h
              split at h
              · injection h with h; injection h with h4 h5
                subst h5
                refine ⟨?_, by decide, by decide, by simp⟩
                show 64 * (64 * (64 * (b0.toNat % 8) + b1.toNat % 64) + b2.toNat % 64) + b3.toNat % 64 = r
                omega
              · cases h
          · cases h
/-- A candidate fits just at the rune that is there. -/
theorem fit_iff {L : List UInt8} {n : Nat} (hn : n ≤ L.length) : (vr (cpR (modR n) L (n - 1)) ∧ enc (cpR (modR n) L (n - 1)) = L.take n) ↔ decL L = some (cpR (modR n) L (n - 1), n) := by
  constructor
  · rintro ⟨hv, he⟩
    have e : L = enc (cpR (modR n) L (n - 1)) ++ L.drop n := by rw [he, List.take_append_drop]
    have hl : (enc (cpR (modR n) L (n - 1))).length = n := by rw [he, List.length_take]; omega
    generalize cpR (modR n) L (n - 1) = c at *
    rw [e, decL_enc hv, hl]
  · intro h
    obtain ⟨h2, h3, h4⟩ := decL_sound h
    refine ⟨h2, ?_⟩
    generalize cpR (modR n) L (n - 1) = c at *
    rw [h4, List.take_left' h3.symm]
/-- The rune at the head, (0, 0) if there is none. -/
@[irreducible] def r1 (L : List UInt8) : Nat × Nat := (decL L).getD (0, 0)
theorem r1_some {L : List UInt8} {p : Nat × Nat} (h : decL L = some p) : r1 L = p := by unfold r1; rw [h]; rfl
theorem r1_none {L : List UInt8} (h : decL L = none) : r1 L = (0, 0) := by unfold r1; rw [h]; rfl
section
variable {ro : Addr → A → Prop}
set_option maxHeartbeats 4000000 in
theorem rune1 (L : List UInt8) (hL : L.length ≤ 1000) {K : V → Hp → Prop} (hK : ∀ r n, r1 L = (r, n) → K (.t [.a (.int .i32 (r : Nat)), .a (.int .i64 (n : Nat))]) []) :
    Go.Eng.Fn Tryd.prog ro 62 [.a (.str (bs L))] [] K := by
  refine Fn.weak ?_
  refine Fn.of_code (cutAt [12] h62) Tryd.func62 rfl (Nat.le_of_ble_eq_true rfl) ?_
  obtain ⟨s, hs⟩ : ∃ s, s = bs L := ⟨_, rfl⟩
  rw [← hs]
  have hsz : s.size = L.length := by rw [hs]; exact bs_size L
  conv => whnf
  skip
  refine loopx_of (fun m F H => ∃ (n : Nat) (z : Int), z = (n : Int) ∧ 1 ≤ n ∧ n ≤ 5 ∧ m = 6 - n ∧ (∀ k r, k < n → decL L ≠ some (r, k)) ∧ F = [(0, .a (.str s)), (4, .a (.int .i64 z))] ∧ H = []) 5 ?_ ?_
  · exact Into.weak [] [(0, .a (.str s)), (4, .a (.int .i64 1))] [] ⟨1, 1, rfl, Nat.le_refl _, by decide, rfl, fun k r hk hd => by have := cpR_dec hd; omega, rfl, rfl⟩ ⟨rfl, rfl, trivial⟩ trivial rfl
  · rintro m F H ⟨n, z, hz, h1, h5, rfl, hno, rfl, rfl⟩
    have hw : IntKind.i64.wrap (z + 1) = ((n + 1 : Nat) : Int) := by rw [i64w (by omega) (by omega)]; omega
    by_cases h4 : n ≤ 4
    · have d4 : decide (z ≤ 4) = true := decide_eq_true (by omega)
      by_cases hl : n ≤ L.length
      · have dl : decide (z ≤ (s.size : Int)) = true := decide_eq_true (by omega)
        obtain ⟨b0, hb0⟩ : ∃ b0, L[0]? = some b0 := ⟨_, List.getElem?_eq_getElem (by omega)⟩
        have g0 : byteAt s 0 = some b0 := by rw [hs]; exact byteAt_bs hb0
        have hb8 := b0.toNat_lt
        have hg0 : (L.getD 0 0).toNat = b0.toNat := by rw [List.getD_eq_getElem?_getD, hb0]; rfl
        have ew : IntKind.i32.wrap (b0.toNat : Int) = (b0.toNat : Int) := i32w (by omega)
        have n1234 : n = 1 ∨ n = 2 ∨ n = 3 ∨ n = 4 := by omega
        rcases n1234 with hn | hn | hn | hn
        · have q2 : (z == 2) = false := by simp; omega
          have q3 : (z == 3) = false := by simp; omega
          have q4 : (z == 4) = false := by simp; omega
          have hc0 : IntKind.i32.wrap (b0.toNat : Int) = ((cpR (modR n) L 0 : Nat) : Int) := by
            rw [hn]
            show _ = (((L.getD 0 0).toNat % 256 : Nat) : Int)
            rw [ew, hg0]; omega
          conv => whnf
          repeat' ((first | (with_reducible refine y'b ‹_› ?_) | ((with_reducible apply y'o); (· first | exact g0 | exact g1 | exact g2)) | fail) <;> (conv => whnf))
          refine cutx_of (fun F H => F = [(0, .a (.str s)), (4, .a (.int .i64 z)), (5, .a (.int .i32 (cpR (modR n) L 0 : Nat)))] ∧ H = []) ?_ ?_
          · exact Into.weak [] [(0, .a (.str s)), (4, .a (.int .i64 z)), (5, .a (.int .i32 (cpR (modR n) L 0 : Nat)))] [] ⟨rfl, rfl⟩ ⟨rfl, rfl, congrArg (fun z => some (V.a (.int .i32 z))) hc0, trivial⟩ trivial rfl
          rintro F H ⟨rfl, rfl⟩
          clear g0
          conv => whnf
          skip
          refine loopx_of (fun m F H => ∃ (i : Nat) (y : Int), y = (i : Int) ∧ 1 ≤ i ∧ i ≤ n ∧ m = n - i + 1 ∧ F = [(0, .a (.str s)), (4, .a (.int .i64 z)), (5, .a (.int .i32 (cpR (modR n) L (i - 1) : Nat))), (6, .a (.int .i64 y))] ∧ H = []) n ?_ ?_
          · exact Into.weak [] [(0, .a (.str s)), (4, .a (.int .i64 z)), (5, .a (.int .i32 (cpR (modR n) L (1 - 1) : Nat))), (6, .a (.int .i64 1))] [] ⟨1, 1, rfl, Nat.le_refl _, h1, by omega, rfl, rfl⟩ ⟨rfl, rfl, rfl, rfl, trivial⟩ trivial rfl
          rintro m F H ⟨i, y, hy, hi1, hin, rfl, rfl, rfl⟩
          have hcl := cpR_lt n L (i - 1)
          have hyw : IntKind.i64.wrap (y + 1) = ((i + 1 : Nat) : Int) := by rw [i64w (by omega) (by omega)]; omega
          have h64 : 64 ^ (i - 1) ≤ 262144 := by
            have : 64 ^ (i - 1) ≤ 64 ^ 3 := Nat.pow_le_pow_right (by decide) (by omega)
            exact this
          by_cases hil : i < n
          · have dy : decide (y < z) = true := decide_eq_true (by omega)
            have h64' : 64 ^ (i - 1) ≤ 4096 := by
              have : 64 ^ (i - 1) ≤ 64 ^ 2 := Nat.pow_le_pow_right (by decide) (by omega)
              exact this
            obtain ⟨b, hb⟩ : ∃ b, L[i]? = some b := ⟨_, List.getElem?_eq_getElem (by omega)⟩
            have hb8 := b.toNat_lt
            have g0 : byteAt s y = some b := by rw [hs, hy]; exact byteAt_bs hb
            have hv : IntKind.i32.wrap (IntKind.i32.wrap (64 * ((cpR (modR n) L (i - 1) : Nat) : Int)) + (IntKind.i32.wrap (b.toNat : Int)).tmod 64) = ((cpR (modR n) L (i + 1 - 1) : Nat) : Int) := by
              have e : cpR (modR n) L (i + 1 - 1) = 64 * cpR (modR n) L (i - 1) + b.toNat % 64 := by
                obtain ⟨j, rfl⟩ : ∃ j, i = j + 1 := ⟨i - 1, by omega⟩
                show 64 * cpR (modR n) L j + (L.getD (j + 1) 0).toNat % 64 = _
                rw [List.getD_eq_getElem?_getD, hb]; rfl
              rw [e]
              generalize cpR (modR n) L (i - 1) = c at *
              rw [i32w (x := (b.toNat : Int)) (by omega), show (b.toNat : Int).tmod 64 = ((b.toNat % 64 : Nat) : Int) by rw [Int.tmod_eq_emod_of_nonneg (by omega)]; omega, i32w (x := 64 * (c : Int)) (by omega), i32w (by omega)]
              omega
            generalize ((cpR (modR n) L (i - 1) : Nat) : Int) = c at *
            conv => whnf
            repeat' ((first | (with_reducible refine y'b ‹_› ?_) | ((with_reducible apply y'o); (· first | exact g0 | exact g1 | exact g2)) | fail) <;> (conv => whnf))
            exact ⟨n - (i + 1) + 1, by omega, Into.weak [] [(0, .a (.str s)), (4, .a (.int .i64 z)), (5, .a (.int .i32 (cpR (modR n) L (i + 1 - 1) : Nat))), (6, .a (.int .i64 ((i + 1 : Nat) : Int)))] [] ⟨i + 1, _, rfl, by omega, by omega, rfl, rfl, rfl⟩ ⟨rfl, rfl, congrArg (fun z => some (V.a (.int .i32 z))) hv, congrArg (fun z => some (V.a (.int .i64 z))) hyw, trivial⟩ trivial rfl⟩
          · have dy : decide (y < z) = false := decide_eq_false (by omega)
            obtain rfl : i = n := by omega
            have hfit := fit_iff (L := L) (n := i) hl
            obtain ⟨c, hc⟩ : ∃ c, c = cpR (modR i) L (i - 1) := ⟨_, rfl⟩
            rw [← hc] at hfit ⊢
            obtain ⟨ci, hci⟩ : ∃ ci : Int, ci = (c : Int) := ⟨_, rfl⟩
            rw [← hci]
            have hvr : vrI ci = decide (vr c) := by rw [hci]; exact vrI_nat c
            conv => whnf
            repeat' ((first | ((with_reducible refine y'r ?_ ?_); (· decide +kernel)) | ((with_reducible refine y'g ?_ ?_); (· exact ⟨_, rfl⟩)) | (with_reducible refine y'b ‹_› ?_) | fail) <;> (conv => whnf))
            refine Fn.frame [] (by rfl) (by exact trivial) (by rfl) (isRune1 ci ?_)
            rw [hvr]
            by_cases hv : vr c
            · rw [decide_eq_true hv]
              conv => whnf
              repeat' ((first | ((with_reducible refine y'g ?_ ?_); (· exact ⟨_, rfl⟩)) | ((with_reducible refine y'n ?_ ?_); (· first | assumption | exact decide_eq_true (by omega) | decide +kernel)) | fail) <;> (conv => whnf))
              have k2 := @coded1 ro c (by unfold vr at hv; omega)
              rw [← hci] at k2
              refine Fn.frame [] (by rfl) (by exact trivial) (by rfl) (k2 ?_)
              conv => whnf
              repeat' ((first | ((with_reducible refine y'g ?_ ?_); (· exact ⟨_, rfl⟩)) | fail) <;> (conv => whnf))
              have e3 : s.extract 0 z.toNat = bs (L.take i) := by
                rw [hz, Int.toNat_natCast, hs, bs_extract]
                rfl
              have hbq := beqL (enc c) (L.take i)
              rw [← e3] at hbq
              by_cases hE : enc c = L.take i
              · rw [decide_eq_true hE] at hbq
                have hk := hK c i (r1_some (hfit.1 ⟨hv, hE⟩))
                rw [← hci, ← hz] at hk
                conv => whnf
                repeat' ((first | (with_reducible refine y'b ‹_› ?_) | fail) <;> (conv => whnf))
                exact keepOf (v₀ := .t [.a (.int .i32 ci), .a (.int .i64 z)]) [] [] rfl trivial rfl hk
              · rw [decide_eq_false hE] at hbq
                conv => whnf
                repeat' ((first | (with_reducible refine y'b ‹_› ?_) | fail) <;> (conv => whnf))
                exact ⟨6 - (i + 1), by omega, Into.weak [] [(0, .a (.str s)), (4, .a (.int .i64 ((i + 1 : Nat) : Int)))] [] ⟨i + 1, _, rfl, by omega, by omega, rfl, fun k r hk hd => by
                  by_cases hki : k = i
                  · subst hki
                    have := cpR_dec hd
                    rw [← hc] at this
                    rw [this.1] at hfit
                    exact hE (by rw [this.1]; exact (hfit.2 hd).2)
                  · exact hno k r (by omega) hd, rfl, rfl⟩ ⟨rfl, congrArg (fun z => some (V.a (.int .i64 z))) hw, trivial⟩ trivial rfl⟩
            · rw [decide_eq_false hv]
              conv => whnf
              repeat' ((first | ((with_reducible refine y'g ?_ ?_); (· exact ⟨_, rfl⟩)) | fail) <;> (conv => whnf))
              exact ⟨6 - (i + 1), by omega, Into.weak [] [(0, .a (.str s)), (4, .a (.int .i64 ((i + 1 : Nat) : Int)))] [] ⟨i + 1, _, rfl, by omega, by omega, rfl, fun k r hk hd => by
                by_cases hki : k = i
                · subst hki
                  have := cpR_dec hd
                  rw [← hc] at this
                  rw [this.1] at hfit
                  exact hv (by rw [this.1]; exact (hfit.2 hd).1)
                · exact hno k r (by omega) hd, rfl, rfl⟩ ⟨rfl, congrArg (fun z => some (V.a (.int .i64 z))) hw, trivial⟩ trivial rfl⟩
        · have q2 : (z == 2) = true := by simp; omega
          have q3 : (z == 3) = false := by simp; omega
          have q4 : (z == 4) = false := by simp; omega
          have hc0 : (IntKind.i32.wrap (b0.toNat : Int)).tmod 32 = ((cpR (modR n) L 0 : Nat) : Int) := by
            rw [hn]
            show _ = (((L.getD 0 0).toNat % 32 : Nat) : Int)
            rw [ew, hg0, Int.tmod_eq_emod_of_nonneg (by omega)]; omega
          conv => whnf
          repeat' ((first | (with_reducible refine y'b ‹_› ?_) | ((with_reducible apply y'o); (· first | exact g0 | exact g1 | exact g2)) | fail) <;> (conv => whnf))
          refine cutx_of (fun F H => F = [(0, .a (.str s)), (4, .a (.int .i64 z)), (5, .a (.int .i32 (cpR (modR n) L 0 : Nat)))] ∧ H = []) ?_ ?_
          · exact Into.weak [] [(0, .a (.str s)), (4, .a (.int .i64 z)), (5, .a (.int .i32 (cpR (modR n) L 0 : Nat)))] [] ⟨rfl, rfl⟩ ⟨rfl, rfl, congrArg (fun z => some (V.a (.int .i32 z))) hc0, trivial⟩ trivial rfl
          rintro F H ⟨rfl, rfl⟩
          clear g0
          conv => whnf
          skip
          refine loopx_of (fun m F H => ∃ (i : Nat) (y : Int), y = (i : Int) ∧ 1 ≤ i ∧ i ≤ n ∧ m = n - i + 1 ∧ F = [(0, .a (.str s)), (4, .a (.int .i64 z)), (5, .a (.int .i32 (cpR (modR n) L (i - 1) : Nat))), (6, .a (.int .i64 y))] ∧ H = []) n ?_ ?_
          · exact Into.weak [] [(0, .a (.str s)), (4, .a (.int .i64 z)), (5, .a (.int .i32 (cpR (modR n) L (1 - 1) : Nat))), (6, .a (.int .i64 1))] [] ⟨1, 1, rfl, Nat.le_refl _, h1, by omega, rfl, rfl⟩ ⟨rfl, rfl, rfl, rfl, trivial⟩ trivial rfl
          rintro m F H ⟨i, y, hy, hi1, hin, rfl, rfl, rfl⟩
          have hcl := cpR_lt n L (i - 1)
          have hyw : IntKind.i64.wrap (y + 1) = ((i + 1 : Nat) : Int) := by rw [i64w (by omega) (by omega)]; omega
          have h64 : 64 ^ (i - 1) ≤ 262144 := by
            have : 64 ^ (i - 1) ≤ 64 ^ 3 := Nat.pow_le_pow_right (by decide) (by omega)
            exact this
          by_cases hil : i < n
          · have dy : decide (y < z) = true := decide_eq_true (by omega)
            have h64' : 64 ^ (i - 1) ≤ 4096 := by
              have : 64 ^ (i - 1) ≤ 64 ^ 2 := Nat.pow_le_pow_right (by decide) (by omega)
              exact this
            obtain ⟨b, hb⟩ : ∃ b, L[i]? = some b := ⟨_, List.getElem?_eq_getElem (by omega)⟩
            have hb8 := b.toNat_lt
            have g0 : byteAt s y = some b := by rw [hs, hy]; exact byteAt_bs hb
            have hv : IntKind.i32.wrap (IntKind.i32.wrap (64 * ((cpR (modR n) L (i - 1) : Nat) : Int)) + (IntKind.i32.wrap (b.toNat : Int)).tmod 64) = ((cpR (modR n) L (i + 1 - 1) : Nat) : Int) := by
              have e : cpR (modR n) L (i + 1 - 1) = 64 * cpR (modR n) L (i - 1) + b.toNat % 64 := by
                obtain ⟨j, rfl⟩ : ∃ j, i = j + 1 := ⟨i - 1, by omega⟩
                show 64 * cpR (modR n) L j + (L.getD (j + 1) 0).toNat % 64 = _
                rw [List.getD_eq_getElem?_getD, hb]; rfl
              rw [e]
              generalize cpR (modR n) L (i - 1) = c at *
              rw [i32w (x := (b.toNat : Int)) (by omega), show (b.toNat : Int).tmod 64 = ((b.toNat % 64 : Nat) : Int) by rw [Int.tmod_eq_emod_of_nonneg (by omega)]; omega, i32w (x := 64 * (c : Int)) (by omega), i32w (by omega)]
              omega
            generalize ((cpR (modR n) L (i - 1) : Nat) : Int) = c at *
            conv => whnf
            repeat' ((first | (with_reducible refine y'b ‹_› ?_) | ((with_reducible apply y'o); (· first | exact g0 | exact g1 | exact g2)) | fail) <;> (conv => whnf))
            exact ⟨n - (i + 1) + 1, by omega, Into.weak [] [(0, .a (.str s)), (4, .a (.int .i64 z)), (5, .a (.int .i32 (cpR (modR n) L (i + 1 - 1) : Nat))), (6, .a (.int .i64 ((i + 1 : Nat) : Int)))] [] ⟨i + 1, _, rfl, by omega, by omega, rfl, rfl, rfl⟩ ⟨rfl, rfl, congrArg (fun z => some (V.a (.int .i32 z))) hv, congrArg (fun z => some (V.a (.int .i64 z))) hyw, trivial⟩ trivial rfl⟩
          · have dy : decide (y < z) = false := decide_eq_false (by omega)
            obtain rfl : i = n := by omega
            have hfit := fit_iff (L := L) (n := i) hl
            obtain ⟨c, hc⟩ : ∃ c, c = cpR (modR i) L (i - 1) := ⟨_, rfl⟩
            rw [← hc] at hfit ⊢
            obtain ⟨ci, hci⟩ : ∃ ci : Int, ci = (c : Int) := ⟨_, rfl⟩
            rw [← hci]
            have hvr : vrI ci = decide (vr c) := by rw [hci]; exact vrI_nat c
            conv => whnf
            repeat' ((first | ((with_reducible refine y'r ?_ ?_); (· decide +kernel)) | ((with_reducible refine y'g ?_ ?_); (· exact ⟨_, rfl⟩)) | (with_reducible refine y'b ‹_› ?_) | fail) <;> (conv => whnf))
            refine Fn.frame [] (by rfl) (by exact trivial) (by rfl) (isRune1 ci ?_)
            rw [hvr]
            by_cases hv : vr c
            · rw [decide_eq_true hv]
              conv => whnf
              repeat' ((first | ((with_reducible refine y'g ?_ ?_); (· exact ⟨_, rfl⟩)) | ((with_reducible refine y'n ?_ ?_); (· first | assumption | exact decide_eq_true (by omega) | decide +kernel)) | fail) <;> (conv => whnf))
              have k2 := @coded1 ro c (by unfold vr at hv; omega)
              rw [← hci] at k2
              refine Fn.frame [] (by rfl) (by exact trivial) (by rfl) (k2 ?_)
              conv => whnf
              repeat' ((first | ((with_reducible refine y'g ?_ ?_); (· exact ⟨_, rfl⟩)) | fail) <;> (conv => whnf))
              have e3 : s.extract 0 z.toNat = bs (L.take i) := by
                rw [hz, Int.toNat_natCast, hs, bs_extract]
                rfl
              have hbq := beqL (enc c) (L.take i)
              rw [← e3] at hbq
              by_cases hE : enc c = L.take i
              · rw [decide_eq_true hE] at hbq
                have hk := hK c i (r1_some (hfit.1 ⟨hv, hE⟩))
                rw [← hci, ← hz] at hk
                conv => whnf
                repeat' ((first | (with_reducible refine y'b ‹_› ?_) | fail) <;> (conv => whnf))
                exact keepOf (v₀ := .t [.a (.int .i32 ci), .a (.int .i64 z)]) [] [] rfl trivial rfl hk
              · rw [decide_eq_false hE] at hbq
                conv => whnf
                repeat' ((first | (with_reducible refine y'b ‹_› ?_) | fail) <;> (conv => whnf))
                exact ⟨6 - (i + 1), by omega, Into.weak [] [(0, .a (.str s)), (4, .a (.int .i64 ((i + 1 : Nat) : Int)))] [] ⟨i + 1, _, rfl, by omega, by omega, rfl, fun k r hk hd => by
                  by_cases hki : k = i
                  · subst hki
                    have := cpR_dec hd
                    rw [← hc] at this
                    rw [this.1] at hfit
                    exact hE (by rw [this.1]; exact (hfit.2 hd).2)
                  · exact hno k r (by omega) hd, rfl, rfl⟩ ⟨rfl, congrArg (fun z => some (V.a (.int .i64 z))) hw, trivial⟩ trivial rfl⟩
            · rw [decide_eq_false hv]
              conv => whnf
              repeat' ((first | ((with_reducible refine y'g ?_ ?_); (· exact ⟨_, rfl⟩)) | fail) <;> (conv => whnf))
              exact ⟨6 - (i + 1), by omega, Into.weak [] [(0, .a (.str s)), (4, .a (.int .i64 ((i + 1 : Nat) : Int)))] [] ⟨i + 1, _, rfl, by omega, by omega, rfl, fun k r hk hd => by
                by_cases hki : k = i
                · subst hki
                  have := cpR_dec hd
                  rw [← hc] at this
                  rw [this.1] at hfit
                  exact hv (by rw [this.1]; exact (hfit.2 hd).1)
                · exact hno k r (by omega) hd, rfl, rfl⟩ ⟨rfl, congrArg (fun z => some (V.a (.int .i64 z))) hw, trivial⟩ trivial rfl⟩
        · have q2 : (z == 2) = false := by simp; omega
          have q3 : (z == 3) = true := by simp; omega
          have q4 : (z == 4) = false := by simp; omega
          have hc0 : (IntKind.i32.wrap (b0.toNat : Int)).tmod 16 = ((cpR (modR n) L 0 : Nat) : Int) := by
            rw [hn]
            show _ = (((L.getD 0 0).toNat % 16 : Nat) : Int)
            rw [ew, hg0, Int.tmod_eq_emod_of_nonneg (by omega)]; omega
          conv => whnf
          repeat' ((first | (with_reducible refine y'b ‹_› ?_) | ((with_reducible apply y'o); (· first | exact g0 | exact g1 | exact g2)) | fail) <;> (conv => whnf))
          refine cutx_of (fun F H => F = [(0, .a (.str s)), (4, .a (.int .i64 z)), (5, .a (.int .i32 (cpR (modR n) L 0 : Nat)))] ∧ H = []) ?_ ?_
          · exact Into.weak [] [(0, .a (.str s)), (4, .a (.int .i64 z)), (5, .a (.int .i32 (cpR (modR n) L 0 : Nat)))] [] ⟨rfl, rfl⟩ ⟨rfl, rfl, congrArg (fun z => some (V.a (.int .i32 z))) hc0, trivial⟩ trivial rfl
          rintro F H ⟨rfl, rfl⟩
          clear g0
          conv => whnf
          skip
          refine loopx_of (fun m F H => ∃ (i : Nat) (y : Int), y = (i : Int) ∧ 1 ≤ i ∧ i ≤ n ∧ m = n - i + 1 ∧ F = [(0, .a (.str s)), (4, .a (.int .i64 z)), (5, .a (.int .i32 (cpR (modR n) L (i - 1) : Nat))), (6, .a (.int .i64 y))] ∧ H = []) n ?_ ?_
          · exact Into.weak [] [(0, .a (.str s)), (4, .a (.int .i64 z)), (5, .a (.int .i32 (cpR (modR n) L (1 - 1) : Nat))), (6, .a (.int .i64 1))] [] ⟨1, 1, rfl, Nat.le_refl _, h1, by omega, rfl, rfl⟩ ⟨rfl, rfl, rfl, rfl, trivial⟩ trivial rfl
          rintro m F H ⟨i, y, hy, hi1, hin, rfl, rfl, rfl⟩
          have hcl := cpR_lt n L (i - 1)
          have hyw : IntKind.i64.wrap (y + 1) = ((i + 1 : Nat) : Int) := by rw [i64w (by omega) (by omega)]; omega
          have h64 : 64 ^ (i - 1) ≤ 262144 := by
            have : 64 ^ (i - 1) ≤ 64 ^ 3 := Nat.pow_le_pow_right (by decide) (by omega)
            exact this
          by_cases hil : i < n
          · have dy : decide (y < z) = true := decide_eq_true (by omega)
            have h64' : 64 ^ (i - 1) ≤ 4096 := by
              have : 64 ^ (i - 1) ≤ 64 ^ 2 := Nat.pow_le_pow_right (by decide) (by omega)
              exact this
            obtain ⟨b, hb⟩ : ∃ b, L[i]? = some b := ⟨_, List.getElem?_eq_getElem (by omega)⟩
            have hb8 := b.toNat_lt
            have g0 : byteAt s y = some b := by rw [hs, hy]; exact byteAt_bs hb
            have hv : IntKind.i32.wrap (IntKind.i32.wrap (64 * ((cpR (modR n) L (i - 1) : Nat) : Int)) + (IntKind.i32.wrap (b.toNat : Int)).tmod 64) = ((cpR (modR n) L (i + 1 - 1) : Nat) : Int) := by
              have e : cpR (modR n) L (i + 1 - 1) = 64 * cpR (modR n) L (i - 1) + b.toNat % 64 := by
                obtain ⟨j, rfl⟩ : ∃ j, i = j + 1 := ⟨i - 1, by omega⟩
                show 64 * cpR (modR n) L j + (L.getD (j + 1) 0).toNat % 64 = _
                rw [List.getD_eq_getElem?_getD, hb]; rfl
              rw [e]
              generalize cpR (modR n) L (i - 1) = c at *
              rw [i32w (x := (b.toNat : Int)) (by omega), show (b.toNat : Int).tmod 64 = ((b.toNat % 64 : Nat) : Int) by rw [Int.tmod_eq_emod_of_nonneg (by omega)]; omega, i32w (x := 64 * (c : Int)) (by omega), i32w (by omega)]
              omega
            generalize ((cpR (modR n) L (i - 1) : Nat) : Int) = c at *
            conv => whnf
            repeat' ((first | (with_reducible refine y'b ‹_› ?_) | ((with_reducible apply y'o); (· first | exact g0 | exact g1 | exact g2)) | fail) <;> (conv => whnf))
            exact ⟨n - (i + 1) + 1, by omega, Into.weak [] [(0, .a (.str s)), (4, .a (.int .i64 z)), (5, .a (.int .i32 (cpR (modR n) L (i + 1 - 1) : Nat))), (6, .a (.int .i64 ((i + 1 : Nat) : Int)))] [] ⟨i + 1, _, rfl, by omega, by omega, rfl, rfl, rfl⟩ ⟨rfl, rfl, congrArg (fun z => some (V.a (.int .i32 z))) hv, congrArg (fun z => some (V.a (.int .i64 z))) hyw, trivial⟩ trivial rfl⟩
          · have dy : decide (y < z) = false := decide_eq_false (by omega)
            obtain rfl : i = n := by omega
            have hfit := fit_iff (L := L) (n := i) hl
            obtain ⟨c, hc⟩ : ∃ c, c = cpR (modR i) L (i - 1) := ⟨_, rfl⟩
            rw [← hc] at hfit ⊢
            obtain ⟨ci, hci⟩ : ∃ ci : Int, ci = (c : Int) := ⟨_, rfl⟩
            rw [← hci]
            have hvr : vrI ci = decide (vr c) := by rw [hci]; exact vrI_nat c
            conv => whnf
            repeat' ((first | ((with_reducible refine y'r ?_ ?_); (· decide +kernel)) | ((with_reducible refine y'g ?_ ?_); (· exact ⟨_, rfl⟩)) | (with_reducible refine y'b ‹_› ?_) | fail) <;> (conv => whnf))
            refine Fn.frame [] (by rfl) (by exact trivial) (by rfl) (isRune1 ci ?_)
            rw [hvr]
            by_cases hv : vr c
            · rw [decide_eq_true hv]
              conv => whnf
              repeat' ((first | ((with_reducible refine y'g ?_ ?_); (· exact ⟨_, rfl⟩)) | ((with_reducible refine y'n ?_ ?_); (· first | assumption | exact decide_eq_true (by omega) | decide +kernel)) | fail) <;> (conv => whnf))
              have k2 := @coded1 ro c (by unfold vr at hv; omega)
              rw [← hci] at k2
              refine Fn.frame [] (by rfl) (by exact trivial) (by rfl) (k2 ?_)
              conv => whnf
              repeat' ((first | ((with_reducible refine y'g ?_ ?_); (· exact ⟨_, rfl⟩)) | fail) <;> (conv => whnf))
              have e3 : s.extract 0 z.toNat = bs (L.take i) := by
                rw [hz, Int.toNat_natCast, hs, bs_extract]
                rfl
              have hbq := beqL (enc c) (L.take i)
              rw [← e3] at hbq
              by_cases hE : enc c = L.take i
              · rw [decide_eq_true hE] at hbq
                have hk := hK c i (r1_some (hfit.1 ⟨hv, hE⟩))
                rw [← hci, ← hz] at hk
                conv => whnf
                repeat' ((first | (with_reducible refine y'b ‹_› ?_) | fail) <;> (conv => whnf))
                exact keepOf (v₀ := .t [.a (.int .i32 ci), .a (.int .i64 z)]) [] [] rfl trivial rfl hk
              · rw [decide_eq_false hE] at hbq
                conv => whnf
                repeat' ((first | (with_reducible refine y'b ‹_› ?_) | fail) <;> (conv => whnf))
                exact ⟨6 - (i + 1), by omega, Into.weak [] [(0, .a (.str s)), (4, .a (.int .i64 ((i + 1 : Nat) : Int)))] [] ⟨i + 1, _, rfl, by omega, by omega, rfl, fun k r hk hd => by
                  by_cases hki : k = i
                  · subst hki
                    have := cpR_dec hd
                    rw [← hc] at this
                    rw [this.1] at hfit
                    exact hE (by rw [this.1]; exact (hfit.2 hd).2)
                  · exact hno k r (by omega) hd, rfl, rfl⟩ ⟨rfl, congrArg (fun z => some (V.a (.int .i64 z))) hw, trivial⟩ trivial rfl⟩
            · rw [decide_eq_false hv]
              conv => whnf
              repeat' ((first | ((with_reducible refine y'g ?_ ?_); (· exact ⟨_, rfl⟩)) | fail) <;> (conv => whnf))
              exact ⟨6 - (i + 1), by omega, Into.weak [] [(0, .a (.str s)), (4, .a (.int .i64 ((i + 1 : Nat) : Int)))] [] ⟨i + 1, _, rfl, by omega, by omega, rfl, fun k r hk hd => by
                by_cases hki : k = i
                · subst hki
                  have := cpR_dec hd
                  rw [← hc] at this
                  rw [this.1] at hfit
                  exact hv (by rw [this.1]; exact (hfit.2 hd).1)
                · exact hno k r (by omega) hd, rfl, rfl⟩ ⟨rfl, congrArg (fun z => some (V.a (.int .i64 z))) hw, trivial⟩ trivial rfl⟩
        · have q2 : (z == 2) = false := by simp; omega
          have q3 : (z == 3) = false := by simp; omega
          have q4 : (z == 4) = true := by simp; omega
          have hc0 : (IntKind.i32.wrap (b0.toNat : Int)).tmod 8 = ((cpR (modR n) L 0 : Nat) : Int) := by
            rw [hn]
            show _ = (((L.getD 0 0).toNat % 8 : Nat) : Int)
            rw [ew, hg0, Int.tmod_eq_emod_of_nonneg (by omega)]; omega
          conv => whnf
          repeat' ((first | (with_reducible refine y'b ‹_› ?_) | ((with_reducible apply y'o); (· first | exact g0 | exact g1 | exact g2)) | fail) <;> (conv => whnf))
          refine cutx_of (fun F H => F = [(0, .a (.str s)), (4, .a (.int .i64 z)), (5, .a (.int .i32 (cpR (modR n) L 0 : Nat)))] ∧ H = []) ?_ ?_
          · exact Into.weak [] [(0, .a (.str s)), (4, .a (.int .i64 z)), (5, .a (.int .i32 (cpR (modR n) L 0 : Nat)))] [] ⟨rfl, rfl⟩ ⟨rfl, rfl, congrArg (fun z => some (V.a (.int .i32 z))) hc0, trivial⟩ trivial rfl
          rintro F H ⟨rfl, rfl⟩
          clear g0
          conv => whnf
          skip
          refine loopx_of (fun m F H => ∃ (i : Nat) (y : Int), y = (i : Int) ∧ 1 ≤ i ∧ i ≤ n ∧ m = n - i + 1 ∧ F = [(0, .a (.str s)), (4, .a (.int .i64 z)), (5, .a (.int .i32 (cpR (modR n) L (i - 1) : Nat))), (6, .a (.int .i64 y))] ∧ H = []) n ?_ ?_
          · exact Into.weak [] [(0, .a (.str s)), (4, .a (.int .i64 z)), (5, .a (.int .i32 (cpR (modR n) L (1 - 1) : Nat))), (6, .a (.int .i64 1))] [] ⟨1, 1, rfl, Nat.le_refl _, h1, by omega, rfl, rfl⟩ ⟨rfl, rfl, rfl, rfl, trivial⟩ trivial rfl
          rintro m F H ⟨i, y, hy, hi1, hin, rfl, rfl, rfl⟩
          have hcl := cpR_lt n L (i - 1)
          have hyw : IntKind.i64.wrap (y + 1) = ((i + 1 : Nat) : Int) := by rw [i64w (by omega) (by omega)]; omega
          have h64 : 64 ^ (i - 1) ≤ 262144 := by
            have : 64 ^ (i - 1) ≤ 64 ^ 3 := Nat.pow_le_pow_right (by decide) (by omega)
            exact this
          by_cases hil : i < n
          · have dy : decide (y < z) = true := decide_eq_true (by omega)
            have h64' : 64 ^ (i - 1) ≤ 4096 := by
              have : 64 ^ (i - 1) ≤ 64 ^ 2 := Nat.pow_le_pow_right (by decide) (by omega)
              exact this
            obtain ⟨b, hb⟩ : ∃ b, L[i]? = some b := ⟨_, List.getElem?_eq_getElem (by omega)⟩
            have hb8 := b.toNat_lt
            have g0 : byteAt s y = some b := by rw [hs, hy]; exact byteAt_bs hb
            have hv : IntKind.i32.wrap (IntKind.i32.wrap (64 * ((cpR (modR n) L (i - 1) : Nat) : Int)) + (IntKind.i32.wrap (b.toNat : Int)).tmod 64) = ((cpR (modR n) L (i + 1 - 1) : Nat) : Int) := by
              have e : cpR (modR n) L (i + 1 - 1) = 64 * cpR (modR n) L (i - 1) + b.toNat % 64 := by
                obtain ⟨j, rfl⟩ : ∃ j, i = j + 1 := ⟨i - 1, by omega⟩
                show 64 * cpR (modR n) L j + (L.getD (j + 1) 0).toNat % 64 = _
                rw [List.getD_eq_getElem?_getD, hb]; rfl
              rw [e]
              generalize cpR (modR n) L (i - 1) = c at *
              rw [i32w (x := (b.toNat : Int)) (by omega), show (b.toNat : Int).tmod 64 = ((b.toNat % 64 : Nat) : Int) by rw [Int.tmod_eq_emod_of_nonneg (by omega)]; omega, i32w (x := 64 * (c : Int)) (by omega), i32w (by omega)]
              omega
            generalize ((cpR (modR n) L (i - 1) : Nat) : Int) = c at *
            conv => whnf
            repeat' ((first | (with_reducible refine y'b ‹_› ?_) | ((with_reducible apply y'o); (· first | exact g0 | exact g1 | exact g2)) | fail) <;> (conv => whnf))
            exact ⟨n - (i + 1) + 1, by omega, Into.weak [] [(0, .a (.str s)), (4, .a (.int .i64 z)), (5, .a (.int .i32 (cpR (modR n) L (i + 1 - 1) : Nat))), (6, .a (.int .i64 ((i + 1 : Nat) : Int)))] [] ⟨i + 1, _, rfl, by omega, by omega, rfl, rfl, rfl⟩ ⟨rfl, rfl, congrArg (fun z => some (V.a (.int .i32 z))) hv, congrArg (fun z => some (V.a (.int .i64 z))) hyw, trivial⟩ trivial rfl⟩
          · have dy : decide (y < z) = false := decide_eq_false (by omega)
            obtain rfl : i = n := by omega
            have hfit := fit_iff (L := L) (n := i) hl
            obtain ⟨c, hc⟩ : ∃ c, c = cpR (modR i) L (i - 1) := ⟨_, rfl⟩
            rw [← hc] at hfit ⊢
            obtain ⟨ci, hci⟩ : ∃ ci : Int, ci = (c : Int) := ⟨_, rfl⟩
            rw [← hci]
            have hvr : vrI ci = decide (vr c) := by rw [hci]; exact vrI_nat c
            conv => whnf
            repeat' ((first | ((with_reducible refine y'r ?_ ?_); (· decide +kernel)) | ((with_reducible refine y'g ?_ ?_); (· exact ⟨_, rfl⟩)) | (with_reducible refine y'b ‹_› ?_) | fail) <;> (conv => whnf))
            refine Fn.frame [] (by rfl) (by exact trivial) (by rfl) (isRune1 ci ?_)
            rw [hvr]
            by_cases hv : vr c
            · rw [decide_eq_true hv]
              conv => whnf
              repeat' ((first | ((with_reducible refine y'g ?_ ?_); (· exact ⟨_, rfl⟩)) | ((with_reducible refine y'n ?_ ?_); (· first | assumption | exact decide_eq_true (by omega) | decide +kernel)) | fail) <;> (conv => whnf))
              have k2 := @coded1 ro c (by unfold vr at hv; omega)
              rw [← hci] at k2
              refine Fn.frame [] (by rfl) (by exact trivial) (by rfl) (k2 ?_)
              conv => whnf
              repeat' ((first | ((with_reducible refine y'g ?_ ?_); (· exact ⟨_, rfl⟩)) | fail) <;> (conv => whnf))
              have e3 : s.extract 0 z.toNat = bs (L.take i) := by
                rw [hz, Int.toNat_natCast, hs, bs_extract]
                rfl
              have hbq := beqL (enc c) (L.take i)
              rw [← e3] at hbq
              by_cases hE : enc c = L.take i
              · rw [decide_eq_true hE] at hbq
                have hk := hK c i (r1_some (hfit.1 ⟨hv, hE⟩))
                rw [← hci, ← hz] at hk
                conv => whnf
                repeat' ((first | (with_reducible refine y'b ‹_› ?_) | fail) <;> (conv => whnf))
                exact keepOf (v₀ := .t [.a (.int .i32 ci), .a (.int .i64 z)]) [] [] rfl trivial rfl hk
              · rw [decide_eq_false hE] at hbq
                conv => whnf
                repeat' ((first | (with_reducible refine y'b ‹_› ?_) | fail) <;> (conv => whnf))
                exact ⟨6 - (i + 1), by omega, Into.weak [] [(0, .a (.str s)), (4, .a (.int .i64 ((i + 1 : Nat) : Int)))] [] ⟨i + 1, _, rfl, by omega, by omega, rfl, fun k r hk hd => by
                  by_cases hki : k = i
                  · subst hki
                    have := cpR_dec hd
                    rw [← hc] at this
                    rw [this.1] at hfit
                    exact hE (by rw [this.1]; exact (hfit.2 hd).2)
                  · exact hno k r (by omega) hd, rfl, rfl⟩ ⟨rfl, congrArg (fun z => some (V.a (.int .i64 z))) hw, trivial⟩ trivial rfl⟩
            · rw [decide_eq_false hv]
              conv => whnf
              repeat' ((first | ((with_reducible refine y'g ?_ ?_); (· exact ⟨_, rfl⟩)) | fail) <;> (conv => whnf))
              exact ⟨6 - (i + 1), by omega, Into.weak [] [(0, .a (.str s)), (4, .a (.int .i64 ((i + 1 : Nat) : Int)))] [] ⟨i + 1, _, rfl, by omega, by omega, rfl, fun k r hk hd => by
                by_cases hki : k = i
                · subst hki
                  have := cpR_dec hd
                  rw [← hc] at this
                  rw [this.1] at hfit
                  exact hv (by rw [this.1]; exact (hfit.2 hd).1)
                · exact hno k r (by omega) hd, rfl, rfl⟩ ⟨rfl, congrArg (fun z => some (V.a (.int .i64 z))) hw, trivial⟩ trivial rfl⟩
      · have dl : decide (z ≤ (s.size : Int)) = false := decide_eq_false (by omega)
        have hnone : decL L = none := by
          cases hd : decL L with
          | none => rfl
          | some p =>
            obtain ⟨r, k⟩ := p
            have := cpR_dec hd
            exact absurd hd (hno k r (by omega))
        have hk := hK 0 0 (r1_none hnone)
        conv => whnf
        repeat' ((first | (with_reducible refine y'b ‹_› ?_) | fail) <;> (conv => whnf))
        exact keepOf (v₀ := .t [.a (.int .i32 0), .a (.int .i64 0)]) [] [] rfl trivial rfl hk
    · have d4 : decide (z ≤ 4) = false := decide_eq_false (by omega)
      have hnone : decL L = none := by
        cases hd : decL L with
        | none => rfl
        | some p =>
          obtain ⟨r, k⟩ := p
          have := cpR_dec hd
          exact absurd hd (hno k r (by omega))
      have hk := hK 0 0 (r1_none hnone)
      conv => whnf
      repeat' ((first | (with_reducible refine y'b ‹_› ?_) | fail) <;> (conv => whnf))
      exact keepOf (v₀ := .t [.a (.int .i32 0), .a (.int .i64 0)]) [] [] rfl trivial rfl hk
end
end Go.Proofs.YtimddbgnaeeggaaDoor.KD
