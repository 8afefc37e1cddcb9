import Derived.Test.YtefimkcfaoabpaaDoorVA
namespace Go.Proofs.YtefimkcfaoabpaaDoor.TA
open Go.Eng
set_option maxRecDepth 100000
/-- Decimal digits of a number below 100000. -/
@[irreducible] def dig (n : Nat) : List UInt8 :=
  if n < 10 then [UInt8.ofNat (48 + n)]
  else if n < 100 then [UInt8.ofNat (48 + n / 10), UInt8.ofNat (48 + n % 10)]
  else if n < 1000 then [UInt8.ofNat (48 + n / 100), UInt8.ofNat (48 + n % 100 / 10), UInt8.ofNat (48 + n % 100 % 10)]
  else if n < 10000 then [UInt8.ofNat (48 + n / 100 / 10), UInt8.ofNat (48 + n / 100 % 10), UInt8.ofNat (48 + n % 100 / 10), UInt8.ofNat (48 + n % 100 % 10)]
  else [UInt8.ofNat (48 + n / 10000), UInt8.ofNat (48 + n % 10000 / 100 / 10), UInt8.ofNat (48 + n % 10000 / 100 % 10), UInt8.ofNat (48 + n % 10000 % 100 / 10), UInt8.ofNat (48 + n % 10000 % 100 % 10)]
@[irreducible] def ita (n : Nat) : ByteArray := ⟨(dig n).toArray⟩
theorem ita_few (n : Nat) : (ita n).size ≤ 100 := by
  unfold ita dig
  show (List.toArray _).size ≤ 100
  simp only [List.size_toArray]
  repeat' split
  all_goals simp
section
variable {ro : Addr → A → Prop}
set_option maxHeartbeats 4000000 in
theorem small1 (i : Nat) (hi : i < 100) {K : V → Hp → Prop} (hK : K (.a (.str (ita i))) []) : Go.Eng.Fn Tryd.prog ro 22 [.a (.int .i64 (i : Int))] [] K := by
  have h1 : IntKind.i64.wrap ((i : Int) + 1) = ((i + 1 : Nat) : Int) := by rw [i64w (by omega) (by omega)]; rfl
  have h2 : IntKind.i64.wrap ((i : Int) * 2) = ((i * 2 : Nat) : Int) := by rw [i64w (by omega) (by omega)]; rfl
  have h3 : IntKind.i64.wrap (((i * 2 : Nat) : Int) + 2) = ((i * 2 + 2 : Nat) : Int) := by rw [i64w (by omega) (by omega)]; rfl
  have g0 := True.intro
  have g1 := True.intro
  refine Fn.weak ?_
  refine Fn.of_code (gOf []) Tryd.func22 rfl (Nat.le_of_ble_eq_true rfl) ?_
  by_cases h10 : i < 10
  · have d1 : decide ((i : Int) < 10) = true := decide_eq_true (by omega)
    conv => whnf
    repeat' ((first | rw [h1] | ((with_reducible refine y'r ?_ ?_); (· decide +kernel)) | ((with_reducible refine y'g ?_ ?_); (· exact ⟨_, rfl⟩)) | (with_reducible first | refine y'b ‹_› ?_ | refine y'n ‹_› ?_ | refine y'1 ‹_› ?_ | refine y'2 ‹_› ?_ | refine y'3 ?_ | refine y'4 ?_) | ((with_reducible refine y'n ?_ ?_); (· first | with_reducible assumption | exact decide_eq_true (by omega) | exact mkOK_of (by decide) | decide +kernel | (refine decide_eq_true ?_; simp (disch := omega) only [i64w]; omega))) | (with_reducible first | refine y'n (y'7 ‹_› ‹_›) ?_ | refine y'v (y'8 ‹_› ‹_›) (fun s hs => ?_) | refine y'5 ‹_› ?_ | refine y'6 ‹_› ?_) | ((with_reducible apply y'o); (· first | exact g0 | exact g1)) | ((with_reducible refine y'p ?_ ?_); (· rfl)) | ((with_reducible refine y'q ?_ ?_); (· rfl)) | fail) <;> (conv => whnf))
    refine y'n (decide_eq_true ⟨by omega, by show ((i + 1 : Nat) : Int) ≤ ((36 : Nat) : Int); omega⟩) ?_
    conv => whnf
    refine y'n (decide_eq_true (by omega)) ?_
    conv => whnf
    repeat' ((first | ((with_reducible refine y'r ?_ ?_); (· decide +kernel)) | ((with_reducible refine y'g ?_ ?_); (· exact ⟨_, rfl⟩)) | (with_reducible first | refine y'b ‹_› ?_ | refine y'n ‹_› ?_ | refine y'1 ‹_› ?_ | refine y'2 ‹_› ?_ | refine y'3 ?_ | refine y'4 ?_) | ((with_reducible refine y'n ?_ ?_); (· first | with_reducible assumption | exact decide_eq_true (by omega) | exact mkOK_of (by decide) | decide +kernel | (refine decide_eq_true ?_; simp (disch := omega) only [i64w]; omega))) | (with_reducible first | refine y'n (y'7 ‹_› ‹_›) ?_ | refine y'v (y'8 ‹_› ‹_›) (fun s hs => ?_) | refine y'5 ‹_› ?_ | refine y'6 ‹_› ?_) | ((with_reducible apply y'o); (· first | exact g0 | exact g1)) | ((with_reducible refine y'p ?_ ?_); (· rfl)) | ((with_reducible refine y'q ?_ ?_); (· rfl)) | fail) <;> (conv => whnf))
    refine keepOf (v₀ := .a (.str (ita i))) [] [] ?_ trivial rfl hK
    refine congrArg (fun s => V.a (A.str s)) ?_
    clear d1 h1 h2 h3 hK hi
    unfold ita dig
    revert i
    decide +kernel
  · have d1 : decide ((i : Int) < 10) = false := decide_eq_false (by omega)
    conv => whnf
    repeat' ((first | rw [h2] | rw [h3] | ((with_reducible refine y'r ?_ ?_); (· decide +kernel)) | ((with_reducible refine y'g ?_ ?_); (· exact ⟨_, rfl⟩)) | (with_reducible first | refine y'b ‹_› ?_ | refine y'n ‹_› ?_ | refine y'1 ‹_› ?_ | refine y'2 ‹_› ?_ | refine y'3 ?_ | refine y'4 ?_) | ((with_reducible refine y'n ?_ ?_); (· first | with_reducible assumption | exact decide_eq_true (by omega) | exact mkOK_of (by decide) | decide +kernel | (refine decide_eq_true ?_; simp (disch := omega) only [i64w]; omega))) | (with_reducible first | refine y'n (y'7 ‹_› ‹_›) ?_ | refine y'v (y'8 ‹_› ‹_›) (fun s hs => ?_) | refine y'5 ‹_› ?_ | refine y'6 ‹_› ?_) | ((with_reducible apply y'o); (· first | exact g0 | exact g1)) | ((with_reducible refine y'p ?_ ?_); (· rfl)) | ((with_reducible refine y'q ?_ ?_); (· rfl)) | fail) <;> (conv => whnf))
    refine y'n (decide_eq_true ⟨by omega, by show ((i * 2 + 2 : Nat) : Int) ≤ ((200 : Nat) : Int); omega⟩) ?_
    conv => whnf
    refine y'n (decide_eq_true (by omega)) ?_
    conv => whnf
    repeat' ((first | ((with_reducible refine y'r ?_ ?_); (· decide +kernel)) | ((with_reducible refine y'g ?_ ?_); (· exact ⟨_, rfl⟩)) | (with_reducible first | refine y'b ‹_› ?_ | refine y'n ‹_› ?_ | refine y'1 ‹_› ?_ | refine y'2 ‹_› ?_ | refine y'3 ?_ | refine y'4 ?_) | ((with_reducible refine y'n ?_ ?_); (· first | with_reducible assumption | exact decide_eq_true (by omega) | exact mkOK_of (by decide) | decide +kernel | (refine decide_eq_true ?_; simp (disch := omega) only [i64w]; omega))) | (with_reducible first | refine y'n (y'7 ‹_› ‹_›) ?_ | refine y'v (y'8 ‹_› ‹_›) (fun s hs => ?_) | refine y'5 ‹_› ?_ | refine y'6 ‹_› ?_) | ((with_reducible apply y'o); (· first | exact g0 | exact g1)) | ((with_reducible refine y'p ?_ ?_); (· rfl)) | ((with_reducible refine y'q ?_ ?_); (· rfl)) | fail) <;> (conv => whnf))
    refine keepOf (v₀ := .a (.str (ita i))) [] [] ?_ trivial rfl hK
    refine congrArg (fun s => V.a (A.str s)) ?_
    clear d1 h1 h2 h3 hK
    unfold ita dig
    rw [if_neg h10, if_pos hi]
    clear h10
    revert i
    decide +kernel
set_option maxHeartbeats 400000 in
theorem bool2 (b : Bool) {K : V → Hp → Prop} (hK : K (.a (.int .i64 (if b then 1 else 0))) []) : Go.Eng.Fn Tryd.prog ro 28 [.a (.bool b)] [] K := by
  have g0 := True.intro
  have g1 := True.intro
  cases b
  all_goals
    refine Fn.weak ?_
    refine Fn.of_code (gOf []) Tryd.func28 rfl (Nat.le_of_ble_eq_true rfl) ?_
    conv => whnf
    repeat' ((first | ((with_reducible refine y'r ?_ ?_); (· decide +kernel)) | ((with_reducible refine y'g ?_ ?_); (· exact ⟨_, rfl⟩)) | (with_reducible first | refine y'b ‹_› ?_ | refine y'n ‹_› ?_ | refine y'1 ‹_› ?_ | refine y'2 ‹_› ?_ | refine y'3 ?_ | refine y'4 ?_) | ((with_reducible refine y'n ?_ ?_); (· first | with_reducible assumption | exact decide_eq_true (by omega) | exact mkOK_of (by decide) | decide +kernel | (refine decide_eq_true ?_; simp (disch := omega) only [i64w]; omega))) | (with_reducible first | refine y'n (y'7 ‹_› ‹_›) ?_ | refine y'v (y'8 ‹_› ‹_›) (fun s hs => ?_) | refine y'5 ‹_› ?_ | refine y'6 ‹_› ?_) | ((with_reducible apply y'o); (· first | exact g0 | exact g1)) | ((with_reducible refine y'p ?_ ?_); (· rfl)) | ((with_reducible refine y'q ?_ ?_); (· rfl)) | fail) <;> (conv => whnf))
  · exact keepOf (v₀ := .a (.int .i64 0)) [] [] rfl trivial rfl hK
  · exact keepOf (v₀ := .a (.int .i64 1)) [] [] rfl trivial rfl hK
set_option maxHeartbeats 400000 in
theorem log10 (x : Nat) (hx : x ≤ 64) {K : V → Hp → Prop} (hK : K (.a (.int .i64 ((x * 78913 / 262144 : Nat) : Int))) []) : Go.Eng.Fn Tryd.prog ro 26 [.a (.int .i64 (x : Int))] [] K := by
  have g0 := True.intro
  have g1 := True.intro
  have h1 : IntKind.i64.wrap ((x : Int) * 78913) = ((x * 78913 : Nat) : Int) := by rw [i64w (by omega) (by omega)]; omega
  refine Fn.weak ?_
  refine Fn.of_code (gOf []) Tryd.func26 rfl (Nat.le_of_ble_eq_true rfl) ?_
  conv => whnf
  repeat' ((first | rw [h1] | ((with_reducible refine y'r ?_ ?_); (· decide +kernel)) | ((with_reducible refine y'g ?_ ?_); (· exact ⟨_, rfl⟩)) | (with_reducible first | refine y'b ‹_› ?_ | refine y'n ‹_› ?_ | refine y'1 ‹_› ?_ | refine y'2 ‹_› ?_ | refine y'3 ?_ | refine y'4 ?_) | ((with_reducible refine y'n ?_ ?_); (· first | with_reducible assumption | exact decide_eq_true (by omega) | exact mkOK_of (by decide) | decide +kernel | (refine decide_eq_true ?_; simp (disch := omega) only [i64w]; omega))) | (with_reducible first | refine y'n (y'7 ‹_› ‹_›) ?_ | refine y'v (y'8 ‹_› ‹_›) (fun s hs => ?_) | refine y'5 ‹_› ?_ | refine y'6 ‹_› ?_) | ((with_reducible apply y'o); (· first | exact g0 | exact g1)) | ((with_reducible refine y'p ?_ ?_); (· rfl)) | ((with_reducible refine y'q ?_ ?_); (· rfl)) | fail) <;> (conv => whnf))
  have e : ((x * 78913 : Nat) : Int).fdiv (2 ^ min (Int.toNat 18) IntKind.i64.bits) = ((x * 78913 / 262144 : Nat) : Int) := by rw [show (2 : Int) ^ min (Int.toNat 18) IntKind.i64.bits = ((262144 : Nat) : Int) from by decide, fdivN]
  exact keepOf (v₀ := .a (.int .i64 ((x * 78913 / 262144 : Nat) : Int))) [] [] (congrArg (fun z => V.a (.int .i64 z)) e) trivial rfl hK
/-- The bits of a byte. -/
@[irreducible] def len8 (n : Nat) : Nat := if n = 0 then 0 else if n < 2 then 1 else if n < 4 then 2 else if n < 8 then 3 else if n < 16 then 4 else if n < 32 then 5 else if n < 64 then 6 else if n < 128 then 7 else 8
theorem wrap8n {u : Nat} (h : u < 256) : IntKind.u8.wrap (u : Int) = (u : Int) := by
  simp only [IntKind.wrap, IntKind.signed, IntKind.bits]
  simp
  omega
theorem len8_byte (u : Nat) : (UInt8.ofNat (len8 u)).toNat = len8 u ∧ len8 u ≤ 8 := by
  have h : len8 u ≤ 8 := by unfold len8; repeat' split
                            all_goals omega
  exact ⟨by simp; omega, h⟩
set_option maxHeartbeats 1000000 in
theorem len64 (u : Nat) (hu : u < 65536) {K : V → Hp → Prop} (hK : K (.a (.int .i64 ((if u < 256 then len8 u else 8 + len8 (u / 256) : Nat) : Int))) []) : Go.Eng.Fn Tryd.prog ro 27 [.a (.int .u64 (u : Int))] [] K := by
  have d1 : decide ((u : Int) ≥ 4294967296) = false := decide_eq_false (by omega)
  have d2 : decide ((u : Int) ≥ 65536) = false := decide_eq_false (by omega)
  refine Fn.weak ?_
  refine Fn.of_code (gOf []) Tryd.func27 rfl (Nat.le_of_ble_eq_true rfl) ?_
  have g0 := True.intro
  have g1 := True.intro
  by_cases h : u < 256
  · have d3 : decide ((u : Int) ≥ 256) = false := decide_eq_false (by omega)
    conv => whnf
    repeat' ((first | ((with_reducible refine y'r ?_ ?_); (· decide +kernel)) | ((with_reducible refine y'g ?_ ?_); (· exact ⟨_, rfl⟩)) | (with_reducible first | refine y'b ‹_› ?_ | refine y'n ‹_› ?_ | refine y'1 ‹_› ?_ | refine y'2 ‹_› ?_ | refine y'3 ?_ | refine y'4 ?_) | ((with_reducible refine y'n ?_ ?_); (· first | with_reducible assumption | exact decide_eq_true (by omega) | exact mkOK_of (by decide) | decide +kernel | (refine decide_eq_true ?_; simp (disch := omega) only [i64w]; omega))) | (with_reducible first | refine y'n (y'7 ‹_› ‹_›) ?_ | refine y'v (y'8 ‹_› ‹_›) (fun s hs => ?_) | refine y'5 ‹_› ?_ | refine y'6 ‹_› ?_) | ((with_reducible apply y'o); (· first | exact g0 | exact g1)) | ((with_reducible refine y'p ?_ ?_); (· rfl)) | ((with_reducible refine y'q ?_ ?_); (· rfl)) | fail) <;> (conv => whnf))
    rw [show IntKind.u8.wrap (u : Int) = (u : Int) from wrap8n h]
    refine y'o (x := UInt8.ofNat (len8 u)) (by clear d1 d2 d3 hK hu; unfold len8; revert u; decide +kernel) ?_
    rw [if_pos h] at hK
    have hb := len8_byte u
    generalize len8 u = l at *
    conv => whnf
    repeat' ((first | ((with_reducible refine y'r ?_ ?_); (· decide +kernel)) | ((with_reducible refine y'g ?_ ?_); (· exact ⟨_, rfl⟩)) | (with_reducible first | refine y'b ‹_› ?_ | refine y'n ‹_› ?_ | refine y'1 ‹_› ?_ | refine y'2 ‹_› ?_ | refine y'3 ?_ | refine y'4 ?_) | ((with_reducible refine y'n ?_ ?_); (· first | with_reducible assumption | exact decide_eq_true (by omega) | exact mkOK_of (by decide) | decide +kernel | (refine decide_eq_true ?_; simp (disch := omega) only [i64w]; omega))) | (with_reducible first | refine y'n (y'7 ‹_› ‹_›) ?_ | refine y'v (y'8 ‹_› ‹_›) (fun s hs => ?_) | refine y'5 ‹_› ?_ | refine y'6 ‹_› ?_) | ((with_reducible apply y'o); (· first | exact g0 | exact g1)) | ((with_reducible refine y'p ?_ ?_); (· rfl)) | ((with_reducible refine y'q ?_ ?_); (· rfl)) | fail) <;> (conv => whnf))
    exact keepOf (v₀ := .a (.int .i64 (l : Int))) [] [] (congrArg (fun z => V.a (.int .i64 z)) (by rw [hb.1, show IntKind.i64.wrap (l : Int) = (l : Int) from i64w (by omega) (by omega)]; exact (i64w (by omega) (by omega)).trans (by omega))) trivial rfl hK
  · have d3 : decide ((u : Int) ≥ 256) = true := decide_eq_true (by omega)
    conv => whnf
    repeat' ((first | ((with_reducible refine y'r ?_ ?_); (· decide +kernel)) | ((with_reducible refine y'g ?_ ?_); (· exact ⟨_, rfl⟩)) | (with_reducible first | refine y'b ‹_› ?_ | refine y'n ‹_› ?_ | refine y'1 ‹_› ?_ | refine y'2 ‹_› ?_ | refine y'3 ?_ | refine y'4 ?_) | ((with_reducible refine y'n ?_ ?_); (· first | with_reducible assumption | exact decide_eq_true (by omega) | exact mkOK_of (by decide) | decide +kernel | (refine decide_eq_true ?_; simp (disch := omega) only [i64w]; omega))) | (with_reducible first | refine y'n (y'7 ‹_› ‹_›) ?_ | refine y'v (y'8 ‹_› ‹_›) (fun s hs => ?_) | refine y'5 ‹_› ?_ | refine y'6 ‹_› ?_) | ((with_reducible apply y'o); (· first | exact g0 | exact g1)) | ((with_reducible refine y'p ?_ ?_); (· rfl)) | ((with_reducible refine y'q ?_ ?_); (· rfl)) | fail) <;> (conv => whnf))
    have e : (u : Int).fdiv (2 ^ min (Int.toNat 8) IntKind.u64.bits) = ((u / 256 : Nat) : Int) := by rw [show (2 : Int) ^ min (Int.toNat 8) IntKind.u64.bits = ((256 : Nat) : Int) from by decide, fdivN]
    rw [e]
    have hv : u / 256 < 256 := by omega
    rw [if_neg h] at hK
    generalize u / 256 = v at *
    rw [show IntKind.u8.wrap (v : Int) = (v : Int) from wrap8n hv]
    refine y'o (x := UInt8.ofNat (len8 v)) (by clear d1 d2 d3 hK hu e h; unfold len8; revert v; decide +kernel) ?_
    have hb := len8_byte v
    generalize len8 v = l at *
    conv => whnf
    repeat' ((first | ((with_reducible refine y'r ?_ ?_); (· decide +kernel)) | ((with_reducible refine y'g ?_ ?_); (· exact ⟨_, rfl⟩)) | (with_reducible first | refine y'b ‹_› ?_ | refine y'n ‹_› ?_ | refine y'1 ‹_› ?_ | refine y'2 ‹_› ?_ | refine y'3 ?_ | refine y'4 ?_) | ((with_reducible refine y'n ?_ ?_); (· first | with_reducible assumption | exact decide_eq_true (by omega) | exact mkOK_of (by decide) | decide +kernel | (refine decide_eq_true ?_; simp (disch := omega) only [i64w]; omega))) | (with_reducible first | refine y'n (y'7 ‹_› ‹_›) ?_ | refine y'v (y'8 ‹_› ‹_›) (fun s hs => ?_) | refine y'5 ‹_› ?_ | refine y'6 ‹_› ?_) | ((with_reducible apply y'o); (· first | exact g0 | exact g1)) | ((with_reducible refine y'p ?_ ?_); (· rfl)) | ((with_reducible refine y'q ?_ ?_); (· rfl)) | fail) <;> (conv => whnf))
    exact keepOf (v₀ := .a (.int .i64 ((8 + l : Nat) : Int))) [] [] (congrArg (fun z => V.a (.int .i64 z)) (by rw [hb.1, show IntKind.i64.wrap (l : Int) = (l : Int) from i64w (by omega) (by omega)]; show IntKind.i64.wrap (8 + (l : Int)) = _; exact (i64w (by omega) (by omega)).trans (by omega))) trivial rfl hK
/-- The powers of ten lie in memory. -/
structure Tens (ro : Addr → A → Prop) : Prop where
  at_ : ∀ i : Nat, i < 20 → ro ⟨0, i, none⟩ (.int .u64 ((10 ^ i : Nat) : Int))
set_option maxHeartbeats 1000000 in
theorem numDigits1 (hT : Tens ro) (u : Nat) (h1 : 100 ≤ u) (hu : u < 65536) {K : V → Hp → Prop} (hK : K (.a (.int .i64 ((if u < 1000 then 3 else if u < 10000 then 4 else 5 : Nat) : Int))) []) : Go.Eng.Fn Tryd.prog ro 23 [.a (.int .u64 (u : Int))] [] K := by
  have kl := @len64 ro u hu
  obtain ⟨l, hl⟩ : ∃ l, l = (if u < 256 then len8 u else 8 + len8 (u / 256)) := ⟨_, rfl⟩
  rw [← hl] at kl
  have key : ∀ v, v < 256 → 1 ≤ v → 2 ^ (len8 v - 1) ≤ v ∧ v < 2 ^ len8 v ∧ 1 ≤ len8 v ∧ len8 v ≤ 8 ∧ (64 ≤ v → 7 ≤ len8 v) := by unfold len8; decide +kernel
  have hlb : 2 ^ (l - 1) ≤ u ∧ u < 2 ^ l ∧ 7 ≤ l ∧ l ≤ 16 := by
    by_cases h : u < 256
    · rw [if_pos h] at hl
      obtain ⟨k1, k2, k3, k4, k5⟩ := key u h (by omega)
      rw [hl]
      exact ⟨k1, k2, k5 (by omega), by omega⟩
    · rw [if_neg h] at hl
      obtain ⟨k1, k2, k3, k4, k5⟩ := key (u / 256) (by omega) (by omega)
      generalize len8 (u / 256) = m at *
      subst hl
      have hm : m = 1 ∨ m = 2 ∨ m = 3 ∨ m = 4 ∨ m = 5 ∨ m = 6 ∨ m = 7 ∨ m = 8 := by omega
      rcases hm with rfl | rfl | rfl | rfl | rfl | rfl | rfl | rfl <;> simp at k1 k2 ⊢ <;> omega
  obtain ⟨l1, l2, l3, l4⟩ := hlb
  have k10 := @log10 ro l (by omega)
  obtain ⟨t, ht⟩ : ∃ t, t = l * 78913 / 262144 := ⟨_, rfl⟩
  rw [← ht] at k10
  have hnd : t < 20 ∧ t + (if decide (10 ^ t ≤ u) then 1 else 0) = (if u < 1000 then 3 else if u < 10000 then 4 else 5) := by
    have hm : l = 7 ∨ l = 8 ∨ l = 9 ∨ l = 10 ∨ l = 11 ∨ l = 12 ∨ l = 13 ∨ l = 14 ∨ l = 15 ∨ l = 16 := by omega
    clear kl k10 key hK hT hl
    rcases hm with rfl | rfl | rfl | rfl | rfl | rfl | rfl | rfl | rfl | rfl <;> simp at ht l1 l2 <;> subst ht <;> (refine ⟨by decide, ?_⟩) <;> simp <;> (repeat' split) <;> omega
  obtain ⟨ht20, hnd⟩ := hnd
  rw [← hnd] at hK
  have hro := hT.at_ t ht20
  clear hnd key ht hl l1 l2 l3 l4
  obtain ⟨p, hp⟩ : ∃ p, p = 10 ^ t := ⟨_, rfl⟩
  rw [← hp] at hro hK
  have kb := @bool2 ro (decide ((u : Int) ≥ (p : Int)))
  have g0 := True.intro
  have g1 := True.intro
  have d1 : decide (0 ≤ (t : Int) ∧ (t : Int) < 20) = true := decide_eq_true (by omega)
  refine Fn.weak ?_
  refine Fn.of_code (gOf []) Tryd.func23 rfl (Nat.le_of_ble_eq_true rfl) ?_
  conv => whnf
  repeat' ((first | ((with_reducible refine y'r ?_ ?_); (· decide +kernel)) | ((with_reducible refine y'g ?_ ?_); (· exact ⟨_, rfl⟩)) | (with_reducible first | refine y'b ‹_› ?_ | refine y'n ‹_› ?_ | refine y'1 ‹_› ?_ | refine y'2 ‹_› ?_ | refine y'3 ?_ | refine y'4 ?_) | ((with_reducible refine y'n ?_ ?_); (· first | with_reducible assumption | exact decide_eq_true (by omega) | exact mkOK_of (by decide) | decide +kernel | (refine decide_eq_true ?_; simp (disch := omega) only [i64w]; omega))) | (with_reducible first | refine y'n (y'7 ‹_› ‹_›) ?_ | refine y'v (y'8 ‹_› ‹_›) (fun s hs => ?_) | refine y'5 ‹_› ?_ | refine y'6 ‹_› ?_) | ((with_reducible apply y'o); (· first | exact g0 | exact g1)) | ((with_reducible refine y'p ?_ ?_); (· rfl)) | ((with_reducible refine y'q ?_ ?_); (· rfl)) | (refine Fn.frame [] (by rfl) (by exact trivial) (by rfl) (kl ?_)) | (refine Fn.frame [] (by rfl) (by exact trivial) (by rfl) (k10 ?_)) | (refine Fn.frame [] (by rfl) (by exact trivial) (by rfl) (kb ?_)) | fail) <;> (conv => whnf))
  have e0 : (Addr.mk 0 0 none).add ((t : Int).toNat * Tryd.prog.types[22].size) = ⟨0, t, none⟩ := by
    rw [Int.toNat_natCast, show Tryd.prog.types[22].size = 1 from rfl, Nat.mul_one]
    simp [Addr.add]
    exact fun h => h.symm
  refine ⟨_, e0 ▸ hro, ?_⟩
  conv => whnf
  repeat' ((first | ((with_reducible refine y'r ?_ ?_); (· decide +kernel)) | ((with_reducible refine y'g ?_ ?_); (· exact ⟨_, rfl⟩)) | (with_reducible first | refine y'b ‹_› ?_ | refine y'n ‹_› ?_ | refine y'1 ‹_› ?_ | refine y'2 ‹_› ?_ | refine y'3 ?_ | refine y'4 ?_) | ((with_reducible refine y'n ?_ ?_); (· first | with_reducible assumption | exact decide_eq_true (by omega) | exact mkOK_of (by decide) | decide +kernel | (refine decide_eq_true ?_; simp (disch := omega) only [i64w]; omega))) | (with_reducible first | refine y'n (y'7 ‹_› ‹_›) ?_ | refine y'v (y'8 ‹_› ‹_›) (fun s hs => ?_) | refine y'5 ‹_› ?_ | refine y'6 ‹_› ?_) | ((with_reducible apply y'o); (· first | exact g0 | exact g1)) | ((with_reducible refine y'p ?_ ?_); (· rfl)) | ((with_reducible refine y'q ?_ ?_); (· rfl)) | (refine Fn.frame [] (by rfl) (by exact trivial) (by rfl) (kb ?_)) | fail) <;> (conv => whnf))
  have e : IntKind.i64.wrap ((t : Int) + (if decide ((u : Int) ≥ (p : Int)) then 1 else 0)) = ((t + (if decide (p ≤ u) then 1 else 0) : Nat) : Int) := by
    by_cases h : p ≤ u
    · rw [if_pos (decide_eq_true (by omega)), if_pos (decide_eq_true h), i64w (by omega) (by omega)]; rfl
    · rw [if_neg (by simp; omega), if_neg (by simp; omega), i64w (by omega) (by omega)]; rfl
  exact keepOf (v₀ := .a (.int .i64 _)) [] [] (congrArg (fun z => V.a (.int .i64 z)) e) trivial rfl hK
set_option maxHeartbeats 4000000 in
theorem base3 (u : Nat) (h1 : 100 ≤ u) (hu : u < 1000) (mk : Bool) {K : V → Hp → Prop} (hK : K (.t []) [.cells [.int .u8 0, .int .u8 ((UInt8.ofNat (48 + u / 100)).toNat : Int), .int .u8 ((UInt8.ofNat (48 + u % 100 / 10)).toNat : Int), .int .u8 ((UInt8.ofNat (48 + u % 100 % 10)).toNat : Int), .int .u8 0, .int .u8 0, .int .u8 0, .int .u8 0, .int .u8 0, .int .u8 0, .int .u8 0, .int .u8 0, .int .u8 0, .int .u8 0, .int .u8 0, .int .u8 0, .int .u8 0, .int .u8 0, .int .u8 0, .int .u8 0, .int .u8 0, .int .u8 0, .int .u8 0, .int .u8 0] 66 mk]) :
    Go.Eng.Fn Tryd.prog ro 24 [.a (.slc 0 1 3 23), .a (.int .u64 (u : Int))] [.cells [.int .u8 0, .int .u8 0, .int .u8 0, .int .u8 0, .int .u8 0, .int .u8 0, .int .u8 0, .int .u8 0, .int .u8 0, .int .u8 0, .int .u8 0, .int .u8 0, .int .u8 0, .int .u8 0, .int .u8 0, .int .u8 0, .int .u8 0, .int .u8 0, .int .u8 0, .int .u8 0, .int .u8 0, .int .u8 0, .int .u8 0, .int .u8 0] 66 mk] K := by
  have hw : IntKind.u32.wrap (u : Int) = (u : Int) := wrap32 _ (by omega) (by omega)
  obtain ⟨d, hdu⟩ : ∃ d, d = u % 100 := ⟨_, rfl⟩
  have hd : d < 100 := by omega
  have t1 : (u : Int).tmod 100 = (d : Int) := by rw [hdu]; exact tmodN u 100
  have w2 : IntKind.u32.wrap ((d : Int) * 2) = ((2 * d : Nat) : Int) := by rw [wrap32 _ (by omega) (by omega)]; omega
  have w3 : IntKind.u32.wrap (((2 * d : Nat) : Int) + 1) = ((2 * d + 1 : Nat) : Int) := by rw [wrap32 _ (by omega) (by omega)]; rfl
  rw [← hdu] at hK
  have g0 := True.intro
  have g1 := True.intro
  refine Fn.weak ?_
  refine Fn.of 1 TT.h24 rfl Tryd.func24 rfl (Nat.le_of_ble_eq_true rfl) ?_
  conv => whnf
  repeat' ((first | rw [hw] | ((with_reducible refine y'r ?_ ?_); (· decide +kernel)) | ((with_reducible refine y'g ?_ ?_); (· exact ⟨_, rfl⟩)) | (with_reducible first | refine y'b ‹_› ?_ | refine y'n ‹_› ?_ | refine y'1 ‹_› ?_ | refine y'2 ‹_› ?_ | refine y'3 ?_ | refine y'4 ?_) | ((with_reducible refine y'n ?_ ?_); (· first | with_reducible assumption | exact decide_eq_true (by omega) | exact mkOK_of (by decide) | decide +kernel | (refine decide_eq_true ?_; simp (disch := omega) only [i64w]; omega))) | (with_reducible first | refine y'n (y'7 ‹_› ‹_›) ?_ | refine y'v (y'8 ‹_› ‹_›) (fun s hs => ?_) | refine y'5 ‹_› ?_ | refine y'6 ‹_› ?_) | ((with_reducible apply y'o); (· first | exact g0 | exact g1)) | ((with_reducible refine y'p ?_ ?_); (· rfl)) | ((with_reducible refine y'q ?_ ?_); (· rfl)) | fail) <;> (conv => whnf))
  refine loopx_iter 1 ?_
  conv => whnf
  repeat' ((first | rw [hw] | rw [t1] | rw [w2] | rw [w3] | ((with_reducible refine y'o (x := UInt8.ofNat (48 + d % 10)) ?_ ?_); (· clear hK hdu t1 w2 w3; revert d; decide +kernel)) | ((with_reducible refine y'o (x := UInt8.ofNat (48 + d / 10)) ?_ ?_); (· clear hK hdu t1 w2 w3; revert d; decide +kernel)) | ((with_reducible refine y'r ?_ ?_); (· decide +kernel)) | ((with_reducible refine y'g ?_ ?_); (· exact ⟨_, rfl⟩)) | (with_reducible first | refine y'b ‹_› ?_ | refine y'n ‹_› ?_ | refine y'1 ‹_› ?_ | refine y'2 ‹_› ?_ | refine y'3 ?_ | refine y'4 ?_) | ((with_reducible refine y'n ?_ ?_); (· first | with_reducible assumption | exact decide_eq_true (by omega) | exact mkOK_of (by decide) | decide +kernel | (refine decide_eq_true ?_; simp (disch := omega) only [i64w]; omega))) | (with_reducible first | refine y'n (y'7 ‹_› ‹_›) ?_ | refine y'v (y'8 ‹_› ‹_›) (fun s hs => ?_) | refine y'5 ‹_› ?_ | refine y'6 ‹_› ?_) | ((with_reducible apply y'o); (· first | exact g0 | exact g1)) | ((with_reducible refine y'p ?_ ?_); (· rfl)) | ((with_reducible refine y'q ?_ ?_); (· rfl)) | (with_reducible refine And.intro ?_ ?_) | fail) <;> (conv => whnf))
  have e1 : IntKind.u8.wrap (IntKind.u32.wrap (48 + IntKind.u32.wrap ((u : Int).tdiv 100))) = ((UInt8.ofNat (48 + u / 100)).toNat : Int) := by
    rw [show (u : Int).tdiv 100 = ((u / 100 : Nat) : Int) from tdivN u 100]
    have hq : u / 100 < 10 := by omega
    generalize u / 100 = q at *
    rw [show IntKind.u32.wrap (q : Int) = (q : Int) from wrap32 _ (by omega) (by omega), wrap32 _ (by omega) (by omega), show (48 + (q : Int)) = ((48 + q : Nat) : Int) from by omega, wrap8n (by omega)]
    simp; omega
  rw [e1]
  exact keepOf (v₀ := .t []) [.cells _ 66 mk] [0] rfl ⟨rfl, trivial⟩ rfl hK
set_option maxHeartbeats 4000000 in
theorem base4 (u : Nat) (h1 : 1000 ≤ u) (hu : u < 10000) (mk : Bool) {K : V → Hp → Prop} (hK : K (.t []) [.cells [.int .u8 0, .int .u8 ((UInt8.ofNat (48 + u / 100 / 10)).toNat : Int), .int .u8 ((UInt8.ofNat (48 + u / 100 % 10)).toNat : Int), .int .u8 ((UInt8.ofNat (48 + u % 100 / 10)).toNat : Int), .int .u8 ((UInt8.ofNat (48 + u % 100 % 10)).toNat : Int), .int .u8 0, .int .u8 0, .int .u8 0, .int .u8 0, .int .u8 0, .int .u8 0, .int .u8 0, .int .u8 0, .int .u8 0, .int .u8 0, .int .u8 0, .int .u8 0, .int .u8 0, .int .u8 0, .int .u8 0, .int .u8 0, .int .u8 0, .int .u8 0, .int .u8 0] 66 mk]) :
    Go.Eng.Fn Tryd.prog ro 24 [.a (.slc 0 1 4 23), .a (.int .u64 (u : Int))] [.cells [.int .u8 0, .int .u8 0, .int .u8 0, .int .u8 0, .int .u8 0, .int .u8 0, .int .u8 0, .int .u8 0, .int .u8 0, .int .u8 0, .int .u8 0, .int .u8 0, .int .u8 0, .int .u8 0, .int .u8 0, .int .u8 0, .int .u8 0, .int .u8 0, .int .u8 0, .int .u8 0, .int .u8 0, .int .u8 0, .int .u8 0, .int .u8 0] 66 mk] K := by
  have hw : IntKind.u32.wrap (u : Int) = (u : Int) := wrap32 _ (by omega) (by omega)
  have t4 : (u : Int).tmod 10000 = (u : Int) := by rw [show (10000 : Int) = ((10000 : Nat) : Int) from rfl, tmodN, Nat.mod_eq_of_lt hu]
  obtain ⟨d, hdu⟩ : ∃ d, d = u % 100 := ⟨_, rfl⟩
  have hd : d < 100 := by omega
  have t1 : (u : Int).tmod 100 = (d : Int) := by rw [hdu]; exact tmodN u 100
  have w2 : IntKind.u32.wrap ((d : Int) * 2) = ((2 * d : Nat) : Int) := by rw [wrap32 _ (by omega) (by omega)]; omega
  have w3 : IntKind.u32.wrap (((2 * d : Nat) : Int) + 1) = ((2 * d + 1 : Nat) : Int) := by rw [wrap32 _ (by omega) (by omega)]; rfl
  obtain ⟨c, hcu⟩ : ∃ c, c = u / 100 := ⟨_, rfl⟩
  have hc : c < 100 := by omega
  have t2 : IntKind.u32.wrap ((u : Int).tdiv 100) = (c : Int) := by rw [show (u : Int).tdiv 100 = ((u / 100 : Nat) : Int) from tdivN u 100, ← hcu, wrap32 _ (by omega) (by omega)]
  have w4 : IntKind.u32.wrap ((c : Int) * 2) = ((2 * c : Nat) : Int) := by rw [wrap32 _ (by omega) (by omega)]; omega
  have w5 : IntKind.u32.wrap (((2 * c : Nat) : Int) + 1) = ((2 * c + 1 : Nat) : Int) := by rw [wrap32 _ (by omega) (by omega)]; rfl
  rw [← hdu, ← hcu] at hK
  have g0 := True.intro
  have g1 := True.intro
  refine Fn.weak ?_
  refine Fn.of 1 TT.h24 rfl Tryd.func24 rfl (Nat.le_of_ble_eq_true rfl) ?_
  conv => whnf
  repeat' ((first | rw [hw] | ((with_reducible refine y'r ?_ ?_); (· decide +kernel)) | ((with_reducible refine y'g ?_ ?_); (· exact ⟨_, rfl⟩)) | (with_reducible first | refine y'b ‹_› ?_ | refine y'n ‹_› ?_ | refine y'1 ‹_› ?_ | refine y'2 ‹_› ?_ | refine y'3 ?_ | refine y'4 ?_) | ((with_reducible refine y'n ?_ ?_); (· first | with_reducible assumption | exact decide_eq_true (by omega) | exact mkOK_of (by decide) | decide +kernel | (refine decide_eq_true ?_; simp (disch := omega) only [i64w]; omega))) | (with_reducible first | refine y'n (y'7 ‹_› ‹_›) ?_ | refine y'v (y'8 ‹_› ‹_›) (fun s hs => ?_) | refine y'5 ‹_› ?_ | refine y'6 ‹_› ?_) | ((with_reducible apply y'o); (· first | exact g0 | exact g1)) | ((with_reducible refine y'p ?_ ?_); (· rfl)) | ((with_reducible refine y'q ?_ ?_); (· rfl)) | fail) <;> (conv => whnf))
  refine loopx_iter 1 ?_
  conv => whnf
  repeat' ((first | rw [t4] | rw [t2] | rw [w4] | rw [w5] | ((with_reducible refine y'o (x := UInt8.ofNat (48 + c % 10)) ?_ ?_); (· clear hK hcu t2 w4 w5; revert c; decide +kernel)) | ((with_reducible refine y'o (x := UInt8.ofNat (48 + c / 10)) ?_ ?_); (· clear hK hcu t2 w4 w5; revert c; decide +kernel)) | rw [hw] | rw [t1] | rw [w2] | rw [w3] | ((with_reducible refine y'o (x := UInt8.ofNat (48 + d % 10)) ?_ ?_); (· clear hK hdu t1 w2 w3; revert d; decide +kernel)) | ((with_reducible refine y'o (x := UInt8.ofNat (48 + d / 10)) ?_ ?_); (· clear hK hdu t1 w2 w3; revert d; decide +kernel)) | ((with_reducible refine y'r ?_ ?_); (· decide +kernel)) | ((with_reducible refine y'g ?_ ?_); (· exact ⟨_, rfl⟩)) | (with_reducible first | refine y'b ‹_› ?_ | refine y'n ‹_› ?_ | refine y'1 ‹_› ?_ | refine y'2 ‹_› ?_ | refine y'3 ?_ | refine y'4 ?_) | ((with_reducible refine y'n ?_ ?_); (· first | with_reducible assumption | exact decide_eq_true (by omega) | exact mkOK_of (by decide) | decide +kernel | (refine decide_eq_true ?_; simp (disch := omega) only [i64w]; omega))) | (with_reducible first | refine y'n (y'7 ‹_› ‹_›) ?_ | refine y'v (y'8 ‹_› ‹_›) (fun s hs => ?_) | refine y'5 ‹_› ?_ | refine y'6 ‹_› ?_) | ((with_reducible apply y'o); (· first | exact g0 | exact g1)) | ((with_reducible refine y'p ?_ ?_); (· rfl)) | ((with_reducible refine y'q ?_ ?_); (· rfl)) | (with_reducible refine And.intro ?_ ?_) | fail) <;> (conv => whnf))
  exact keepOf (v₀ := .t []) [.cells _ 66 mk] [0] rfl ⟨rfl, trivial⟩ rfl hK
end
end Go.Proofs.YtefimkcfaoabpaaDoor.TA
