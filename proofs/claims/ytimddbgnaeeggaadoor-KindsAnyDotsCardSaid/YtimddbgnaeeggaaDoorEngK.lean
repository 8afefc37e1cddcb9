/- The engine, parts K. -/
import Derived.Test.YtimddbgnaeeggaaDoorEngJ
/- The engine, part K: rounding to floats of 64 bits, by their rungs. -/
set_option linter.unusedVariables false
namespace Go.Eng
/-- Cutting to the nearest, against whole numbers. -/
theorem cut_even (neg : Bool) (n d c : Nat) : (c * 2 ^ d ≤ n → c ≤ Ieee.Toward.even.cut neg n d) ∧ (n ≤ c * 2 ^ d → Ieee.Toward.even.cut neg n d ≤ c) := by
  unfold Ieee.Toward.cut
  simp only [Nat.shiftLeft_eq, Nat.one_mul]
  have hlog : n < 2 ^ (n.log2 + 1) := Nat.lt_log2_self
  by_cases hd : d ≤ n.log2 + 2
  · rw [Nat.min_eq_left hd]
    have hp : 0 < 2 ^ d := Nat.two_pow_pos d
    generalize 2 ^ d = g at *
    have hdm := Nat.div_add_mod n g
    have hlt := Nat.mod_lt n hp
    generalize hq : n / g = q at *
    generalize hr : n % g = r at *
    have hcg : ∀ c, c * g = g * c := fun c => Nat.mul_comm c g
    constructor
    · intro h
      have : c ≤ q := by rw [← hq]; exact (Nat.le_div_iff_mul_le hp).2 h
      omega
    · intro h
      by_cases h0 : r = 0
      · have hc : q ≤ c := by
          rcases Nat.lt_or_ge c q with h1 | h1
          · have h2 : g * (c + 1) ≤ g * q := Nat.mul_le_mul_left g h1
            rw [Nat.mul_add] at h2
            have := hcg c
            omega
          · exact h1
        have : ((decide (g < 2 * r) || (g == 2 * r && q % 2 == 1)).toNat) = 0 := by
          subst h0
          have h3 : decide (g < 2 * 0) = false := decide_eq_false (by omega)
          have h4 : (g == 2 * 0) = false := by simp; omega
          rw [h3, h4]; rfl
        omega
      · have hc : q + 1 ≤ c := by
          rcases Nat.lt_or_ge q c with h1 | h1
          · exact h1
          · have h2 : g * c ≤ g * q := Nat.mul_le_mul_left g h1
            have := hcg c
            omega
        have : ((decide (g < 2 * r) || (g == 2 * r && q % 2 == 1)).toNat) ≤ 1 := by
          cases (decide (g < 2 * r) || (g == 2 * r && q % 2 == 1)) <;> decide
        omega
  · rw [Nat.min_eq_right (by omega)]
    have e2 : 2 ^ (n.log2 + 2) = 2 * 2 ^ (n.log2 + 1) := by rw [show n.log2 + 2 = (n.log2 + 1) + 1 by omega, Nat.pow_succ]; omega
    have hdiv : n / 2 ^ (n.log2 + 2) = 0 := Nat.div_eq_of_lt (by omega)
    have hmod : n % 2 ^ (n.log2 + 2) = n := Nat.mod_eq_of_lt (by omega)
    rw [hdiv, hmod]
    have h3 : decide (2 ^ (n.log2 + 2) < 2 * n) = false := decide_eq_false (by omega)
    have h4 : (2 ^ (n.log2 + 2) == 2 * n) = false := by simp; omega
    rw [h3, h4]
    have hlt : n < 2 ^ d := by
      have : 2 ^ (n.log2 + 1) ≤ 2 ^ d := Nat.pow_le_pow_right (by decide) (by omega)
      omega
    constructor
    · intro h
      rcases Nat.eq_zero_or_pos c with h5 | h5
      · subst h5; exact Nat.zero_le _
      · have : 2 ^ d ≤ c * 2 ^ d := Nat.le_mul_of_pos_left _ h5
        omega
    · intro _
      simp
theorem two52 : (2 : Nat) ^ 52 = bBin := by decide
theorem two53 : (2 : Nat) ^ 53 = 2 * bBin := by decide
theorem bBin_pos : 0 < bBin := by decide
theorem rung_any (B q c : Nat) (hB : 0 < B) (hc : c ≤ 2 * B) (h : q = 0 ∨ B ≤ c) : (if q * B + c < B then q * B + c else (B + (q * B + c) % B) * 2 ^ ((q * B + c) / B - 1)) = c * 2 ^ q := by
  rcases Nat.lt_or_ge c B with h1 | h1
  · obtain rfl : q = 0 := by omega
    rw [Nat.zero_mul, Nat.zero_add, if_pos h1, Nat.pow_zero, Nat.mul_one]
  · have hn : ¬ (q * B + c < B) := by omega
    rw [if_neg hn]
    rcases Nat.lt_or_ge c (2 * B) with h2 | h2
    · obtain ⟨e, he, hlt⟩ : ∃ e, c = B + e ∧ e < B := ⟨c - B, by omega, by omega⟩
      have e1 : q * B + c = e + B * (q + 1) := by rw [he, Nat.mul_add, Nat.mul_comm q B]; omega
      rw [e1, Nat.add_mul_mod_self_left, Nat.add_mul_div_left _ _ hB, Nat.mod_eq_of_lt hlt, Nat.div_eq_of_lt hlt, he]
      congr 2
      omega
    · obtain rfl : c = 2 * B := by omega
      have e1 : q * B + 2 * B = 0 + B * (q + 2) := by rw [Nat.mul_add, Nat.mul_comm q B]; omega
      rw [e1, Nat.add_mul_mod_self_left, Nat.add_mul_div_left _ _ hB, Nat.zero_mod, Nat.zero_div, Nat.add_zero]
      rw [show 0 + (q + 2) - 1 = q + 1 by omega, Nat.pow_succ, Nat.mul_comm (2 ^ q) 2, ← Nat.mul_assoc, Nat.mul_comm B 2]
theorem vmag_rung (q c : Nat) (hc : c ≤ 2 * bBin) (h : q = 0 ∨ bBin ≤ c) : vmag (q * bBin + c) = c * 2 ^ q := by
  unfold vmag
  exact rung_any bBin q c bBin_pos hc h
theorem mult_any (B q r : Nat) (hB : 0 < B) (h : q = 0 ∨ (q + 1) * B ≤ r) : ∃ m, (if r < B then r else (B + r % B) * 2 ^ (r / B - 1)) = m * 2 ^ q := by
  rcases h with rfl | h
  · exact ⟨_, by rw [Nat.pow_zero, Nat.mul_one]⟩
  · have h1 : q + 1 ≤ r / B := (Nat.le_div_iff_mul_le hB).2 h
    have h2 : B ≤ r := by
      have : B ≤ (q + 1) * B := Nat.le_mul_of_pos_left _ (Nat.succ_pos q)
      omega
    rw [if_neg (by omega)]
    refine ⟨(B + r % B) * 2 ^ (r / B - 1 - q), ?_⟩
    rw [Nat.mul_assoc, ← Nat.pow_add]
    congr 2
    omega
/-- A rung beyond a place is a multiple. -/
theorem vmag_mult (q r : Nat) (h : q = 0 ∨ (q + 1) * bBin ≤ r) : ∃ m, vmag r = m * 2 ^ q := by
  unfold vmag
  exact mult_any bBin q r bBin_pos h
/-- The rung that is nearest to 'mag * 2 ^ t / 2 ^ s' (in units of the least place). -/
def nearR (neg : Bool) (mag : Nat) (place : Int) : Nat :=
  if mag = 0 then 0 else
  let last := max (place + mag.log2 - 52) (-1074)
  min ((last - (-1074)).toNat * bBin + Ieee.Toward.even.cut neg (mag <<< (place - last).toNat) (last - place).toNat) bInf
theorem nearest_eq (neg : Bool) (mag : Nat) (place : Int) : Ieee.double.nearest neg mag place = Ieee.double.word neg (nearR neg mag place) := by
  have e2 : Ieee.double.binade = bBin := by decide
  have e3 : Ieee.double.infRung = bInf := by decide
  have e4 : Ieee.double.leastPlace = -1074 := by decide
  have e5 : Ieee.double.fractionBits = 52 := by decide
  unfold Ieee.Format.nearest nearR
  by_cases h : mag = 0
  · rw [if_pos h, if_pos h]
  · rw [if_neg h, if_neg h]
    simp only [e2, e3, e4, e5]
    rfl
theorem min_lt_of {x i r : Nat} (h : min x i < r) (hr : r ≤ i) : x < r := by omega
theorem lt_of_lt_min {x i r : Nat} (h : r < min x i) : r < x := by omega
set_option maxHeartbeats 2000000 in
theorem nearR_both (neg : Bool) (mag : Nat) (place : Int) (s t : Nat) (hst : place + 1074 = (t : Int) - s) (r : Nat) (hr : r ≤ bInf) :
    (vmag r * 2 ^ s ≤ mag * 2 ^ t → r ≤ nearR neg mag place) ∧ (mag * 2 ^ t ≤ vmag r * 2 ^ s → nearR neg mag place ≤ r) := by
  unfold nearR
  by_cases h0 : mag = 0
  · rw [if_pos h0, h0, Nat.zero_mul]
    constructor
    · intro h
      have h1 : vmag r = 0 := by
        rcases Nat.eq_zero_or_pos (vmag r) with h2 | h2
        · exact h2
        · have := Nat.mul_pos h2 (Nat.two_pow_pos s); omega
      have := (vmag_eq_iff r 0).1 (by rw [h1, vmag_zero])
      omega
    · intro _; exact Nat.zero_le _
  · rw [if_neg h0]
    simp only
    generalize hlast : max (place + (mag.log2 : Int) - 52) (-1074) = last
    obtain ⟨q, hq⟩ : ∃ q : Nat, last = (q : Int) - 1074 := ⟨(last + 1074).toNat, by omega⟩
    have eq1 : (last - (-1074)).toNat = q := by omega
    rw [eq1]
    generalize ha : (place - last).toNat = a
    generalize hd : (last - place).toNat = d
    rw [Nat.shiftLeft_eq]
    have hexp : t + d = a + q + s := by omega
    have hscale : mag * 2 ^ t * 2 ^ d = mag * 2 ^ a * (2 ^ q * 2 ^ s) := by
      rw [Nat.mul_assoc, ← Nat.pow_add, hexp, Nat.mul_assoc, ← Nat.pow_add, ← Nat.pow_add]
      congr 2
      omega
    generalize hn : mag * 2 ^ a = n at *
    have hcut := cut_even neg n d
    generalize hc : Ieee.Toward.even.cut neg n d = c at *
    have hlog1 : 2 ^ mag.log2 ≤ mag := Nat.log2_self_le h0
    have hlog2 : mag < 2 ^ (mag.log2 + 1) := Nat.lt_log2_self
    have pq := Nat.two_pow_pos q
    have ps := Nat.two_pow_pos s
    have pd := Nat.two_pow_pos d
    -- n / 2^d lies below 2^53
    have hub : n ≤ (2 * bBin) * 2 ^ d := by
      have hle : mag.log2 + 1 + a ≤ 53 + d := by omega
      have h1 : n ≤ 2 ^ (mag.log2 + 1 + a) := by
        rw [← hn, Nat.pow_add]
        exact Nat.mul_le_mul_right _ (Nat.le_of_lt hlog2)
      have h2 : (2 : Nat) ^ (mag.log2 + 1 + a) ≤ 2 ^ (53 + d) := Nat.pow_le_pow_right (by decide) hle
      have h3 : (2 : Nat) ^ (53 + d) = (2 * bBin) * 2 ^ d := by rw [Nat.pow_add, two53]
      omega
    have hcub : c ≤ (2 * bBin) := (hcut (2 * bBin)).2 hub
    have hlb : q = 0 ∨ bBin * 2 ^ d ≤ n := by
      rcases Nat.eq_zero_or_pos q with h1 | h1
      · exact .inl h1
      · refine .inr ?_
        have hle : 52 + d = mag.log2 + a := by omega
        have h2 : (2 : Nat) ^ (52 + d) = bBin * 2 ^ d := by rw [Nat.pow_add, two52]
        rw [← h2, hle, Nat.pow_add, ← hn]
        exact Nat.mul_le_mul_right _ hlog1
    have hclb : q = 0 ∨ bBin ≤ c := hlb.imp id (hcut bBin).1
    have hv := vmag_rung q c hcub hclb
    constructor
    · intro h
      rcases Nat.lt_or_ge (min (q * bBin + c) bInf) r with hlt | hge
      · exfalso
        have hlt' : q * bBin + c < r := min_lt_of hlt hr
        have hvl := vmag_lt hlt'
        rw [hv] at hvl
        have e0 : (q + 1) * bBin = q * bBin + bBin := Nat.succ_mul q bBin
        have h0r : q = 0 ∨ (q + 1) * bBin ≤ r := by
          rcases hclb with h | h
          · exact .inl h
          · exact .inr (by rw [e0]; exact Nat.le_trans (Nat.add_le_add_left h _) (Nat.le_of_lt hlt'))
        obtain ⟨m, hm⟩ := vmag_mult q r h0r
        rw [hm] at hvl h
        have hmc : c < m := Nat.lt_of_mul_lt_mul_right hvl
        have h5 : m * 2 ^ q * 2 ^ s * 2 ^ d ≤ n * (2 ^ q * 2 ^ s) := by rw [← hscale]; exact Nat.mul_le_mul_right _ h
        have h6 : m * 2 ^ d * (2 ^ q * 2 ^ s) ≤ n * (2 ^ q * 2 ^ s) := by
          have e : m * 2 ^ q * 2 ^ s * 2 ^ d = m * 2 ^ d * (2 ^ q * 2 ^ s) := by simp only [Nat.mul_assoc, Nat.mul_left_comm, Nat.mul_comm]
          rw [← e]; exact h5
        have h7 := Nat.le_of_mul_le_mul_right h6 (Nat.mul_pos pq ps)
        have := (hcut m).1 h7
        omega
      · exact hge
    · intro h
      rcases Nat.lt_or_ge r (min (q * bBin + c) bInf) with hlt | hge
      · exfalso
        have hlt' : r < q * bBin + c := lt_of_lt_min hlt
        have hvl := vmag_lt hlt'
        rw [hv] at hvl
        have h5 : n * (2 ^ q * 2 ^ s) ≤ vmag r * 2 ^ s * 2 ^ d := by rw [← hscale]; exact Nat.mul_le_mul_right _ h
        have h6 : n * 2 ^ q * 2 ^ s ≤ vmag r * 2 ^ d * 2 ^ s := by
          have e : vmag r * 2 ^ s * 2 ^ d = vmag r * 2 ^ d * 2 ^ s := Nat.mul_right_comm _ _ _
          rw [← e, Nat.mul_assoc]; exact h5
        have h7 := Nat.le_of_mul_le_mul_right h6 ps
        by_cases hmul : q = 0 ∨ (q + 1) * bBin ≤ r
        · obtain ⟨m, hm⟩ := vmag_mult q r hmul
          rw [hm] at hvl h7
          have h8 : n * 2 ^ q ≤ m * 2 ^ d * 2 ^ q := by
            have e : m * 2 ^ q * 2 ^ d = m * 2 ^ d * 2 ^ q := Nat.mul_right_comm _ _ _
            rw [← e]; exact h7
          have h9 := (hcut m).2 (Nat.le_of_mul_le_mul_right h8 pq)
          have := Nat.mul_le_mul_right (2 ^ q) h9
          omega
        · have hq0 : q ≠ 0 := fun e => hmul (.inl e)
          have hr2 : r < (q + 1) * bBin := by
            rcases Nat.lt_or_ge r ((q + 1) * bBin) with h | h
            · exact h
            · exact absurd (.inr h) hmul
          have h10 := vmag_lt hr2
          have e1 : (q + 1) * bBin = q * bBin + bBin := Nat.succ_mul q bBin
          rw [e1, vmag_rung q bBin (by omega) (.inr (Nat.le_refl _))] at h10
          have h11 : bBin * 2 ^ d ≤ n := by rcases hlb with h | h; exact absurd h hq0; exact h
          have h12 : bBin * 2 ^ d * 2 ^ q ≤ n * 2 ^ q := Nat.mul_le_mul_right _ h11
          have h13 : vmag r * 2 ^ d < bBin * 2 ^ q * 2 ^ d := Nat.mul_lt_mul_of_pos_right h10 pd
          have e : bBin * 2 ^ q * 2 ^ d = bBin * 2 ^ d * 2 ^ q := Nat.mul_right_comm _ _ _
          omega
      · exact hge
theorem nearR_le (neg : Bool) (mag : Nat) (place : Int) : nearR neg mag place ≤ bInf := by
  unfold nearR
  split
  · exact Nat.zero_le _
  · exact Nat.min_le_right _ _
end Go.Eng
