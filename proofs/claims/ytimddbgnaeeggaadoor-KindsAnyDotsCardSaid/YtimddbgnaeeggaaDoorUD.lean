import Derived.Test.YtimddbgnaeeggaaDoorUC
import Derived.Test.YtimddbgnaeeggaaDoorUK
namespace Go.Proofs.YtimddbgnaeeggaaDoor.KD
open Go.Eng
set_option maxRecDepth 100000
/-- Two rising rows as one. -/
def mg : List Nat → List Nat → List Nat
  | [], b => b
  | x :: a, [] => x :: a
  | x :: a, y :: b => if x < y then x :: mg a (y :: b) else if y < x then y :: mg (x :: a) b else x :: mg a b
termination_by a b => a.length + b.length
theorem mg_nil (b : List Nat) : mg [] b = b := by rw [mg]
theorem mg_nil2 (a : List Nat) : mg a [] = a := by cases a <;> rw [mg]
theorem mg_lt {x y : Nat} (a b : List Nat) (h : x < y) : mg (x :: a) (y :: b) = x :: mg a (y :: b) := by rw [mg, if_pos h]
theorem mg_gt {x y : Nat} (a b : List Nat) (h : y < x) : mg (x :: a) (y :: b) = y :: mg (x :: a) b := by rw [mg, if_neg (by omega), if_pos h]
theorem mg_eq (x : Nat) (a b : List Nat) : mg (x :: a) (x :: b) = x :: mg a b := by rw [mg, if_neg (by omega), if_neg (by omega)]
section
variable {ro : Addr → A → Prop}
set_option maxHeartbeats 4000000 in
theorem union1 (hT : Tabs ro) (A B : List Nat) (hA : AllV A) (hB : AllV B) (hl : (flat A).length + (flat B).length ≤ 1000) {K : V → Hp → Prop}
    (hK : K (.a (.str (bs (flat (mg A B))))) []) :
    Go.Eng.Fn Tryd.prog ro 65 [.a (.str (bs (flat A))), .a (.str (bs (flat B)))] [] K := by
  refine Fn.weak ?_
  refine Fn.of_code h65 Tryd.func65 rfl (Nat.le_of_ble_eq_true rfl) ?_
  obtain ⟨M, hM⟩ : ∃ M, M = flat (mg A B) := ⟨_, rfl⟩
  rw [← hM] at hK
  obtain ⟨sa, hsa⟩ : ∃ s, s = bs (flat A) := ⟨_, rfl⟩
  obtain ⟨sb, hsb⟩ : ∃ s, s = bs (flat B) := ⟨_, rfl⟩
  rw [← hsa, ← hsb]
  conv => whnf
  repeat' ((first | ((with_reducible refine y'r ?_ ?_); (· decide +kernel)) | ((with_reducible refine y'g ?_ ?_); (· exact ⟨_, rfl⟩)) | (with_reducible first | refine y'b ‹_› ?_ | refine y'n ‹_› ?_ | refine y'1 ‹_› ?_ | refine y'2 ‹_› ?_ | refine y'3 ?_ | refine y'4 ?_) | ((with_reducible refine y'n ?_ ?_); (· first | with_reducible assumption | exact decide_eq_true (by omega) | decide +kernel)) | (with_reducible first | refine y'n (y'7 ‹_› ‹_›) ?_ | refine y'v (y'8 ‹_› ‹_›) (fun s hs => ?_)) | ((with_reducible refine y'n ?_ ?_); (· refine decide_eq_true ?_; simp only [ByteArray.size_append]; omega)) | (with_reducible refine And.intro ?_ ?_) | ((with_reducible refine y'p ?_ ?_); (· rfl)) | ((with_reducible refine y'q ?_ ?_); (· rfl)) | fail) <;> (conv => whnf))
  refine loopx_of (fun m F H => ∃ (S : List UInt8) (A B : List Nat) (s sa sb : ByteArray), AllV A ∧ AllV B ∧ S ++ flat (mg A B) = M ∧ S.length + (flat A).length + (flat B).length ≤ 1000 ∧ s = bs S ∧ sa = bs (flat A) ∧ sb = bs (flat B) ∧ m = A.length + B.length ∧ F = [(0, .a (.str sa)), (1, .a (.str sb)), (5, .a (.str s))] ∧ H = []) (A.length + B.length) ?_ ?_
  · exact Into.weak [] [(0, .a (.str sa)), (1, .a (.str sb)), (5, .a (.str (bs [])))] [] ⟨[], A, B, _, _, _, hA, hB, hM.symm, by simpa using hl, rfl, hsa, hsb, rfl, rfl, rfl⟩ ⟨rfl, rfl, rfl, trivial⟩ trivial rfl
  · clear hsa hsb hA hB hl hM A B sa sb
    rintro m F H ⟨S, A, B, s, sa, sb, hA, hB, hM, hl, hs, hsa, hsb, rfl, rfl, rfl⟩
    have ss : s.size = S.length := by rw [hs, bs_size]
    have sas : sa.size = (flat A).length := by rw [hsa, bs_size]
    have sbs : sb.size = (flat B).length := by rw [hsb, bs_size]
    cases A with
    | nil =>
      have c0 : (!(sa.data.toList == ([] : List UInt8))) = false := by rw [hsa, flat_nil]; rfl
      have hend : s ++ sa ++ sb = bs M := by rw [hs, hsa, hsb, bs_append, bs_append, ← hM, flat_nil, List.append_nil, mg_nil]
      conv => whnf
      repeat' ((first | ((with_reducible refine y'r ?_ ?_); (· decide +kernel)) | ((with_reducible refine y'g ?_ ?_); (· exact ⟨_, rfl⟩)) | (with_reducible first | refine y'b ‹_› ?_ | refine y'n ‹_› ?_ | refine y'1 ‹_› ?_ | refine y'2 ‹_› ?_ | refine y'3 ?_ | refine y'4 ?_) | ((with_reducible refine y'n ?_ ?_); (· first | with_reducible assumption | exact decide_eq_true (by omega) | decide +kernel)) | (with_reducible first | refine y'n (y'7 ‹_› ‹_›) ?_ | refine y'v (y'8 ‹_› ‹_›) (fun s hs => ?_)) | ((with_reducible refine y'n ?_ ?_); (· refine decide_eq_true ?_; simp only [ByteArray.size_append]; omega)) | (with_reducible refine And.intro ?_ ?_) | ((with_reducible refine y'p ?_ ?_); (· rfl)) | ((with_reducible refine y'q ?_ ?_); (· rfl)) | fail) <;> (conv => whnf))
      rw [hend]
      exact keepOf (v₀ := .a (.str (bs M))) [] [] rfl trivial rfl hK
    | cons x A =>
      have c0 : (!(sa.data.toList == ([] : List UInt8))) = true := by rw [hsa, flat_ne]; rfl
      have hxl := flat_clen x A
      cases B with
      | nil =>
        have c1 : (!(sb.data.toList == ([] : List UInt8))) = false := by rw [hsb, flat_nil]; rfl
        have hend : s ++ sa ++ sb = bs M := by rw [hs, hsa, hsb, bs_append, bs_append, ← hM, flat_nil, List.append_nil, mg_nil2]
        conv => whnf
        repeat' ((first | ((with_reducible refine y'r ?_ ?_); (· decide +kernel)) | ((with_reducible refine y'g ?_ ?_); (· exact ⟨_, rfl⟩)) | (with_reducible first | refine y'b ‹_› ?_ | refine y'n ‹_› ?_ | refine y'1 ‹_› ?_ | refine y'2 ‹_› ?_ | refine y'3 ?_ | refine y'4 ?_) | ((with_reducible refine y'n ?_ ?_); (· first | with_reducible assumption | exact decide_eq_true (by omega) | decide +kernel)) | (with_reducible first | refine y'n (y'7 ‹_› ‹_›) ?_ | refine y'v (y'8 ‹_› ‹_›) (fun s hs => ?_)) | ((with_reducible refine y'n ?_ ?_); (· refine decide_eq_true ?_; simp only [ByteArray.size_append]; omega)) | (with_reducible refine And.intro ?_ ?_) | ((with_reducible refine y'p ?_ ?_); (· rfl)) | ((with_reducible refine y'q ?_ ?_); (· rfl)) | fail) <;> (conv => whnf))
        rw [hend]
        exact keepOf (v₀ := .a (.str (bs M))) [] [] rfl trivial rfl hK
      | cons y B =>
        have c1 : (!(sb.data.toList == ([] : List UInt8))) = true := by rw [hsb, flat_ne]; rfl
        have hyl := flat_clen y B
        have kx := @decode1 ro hT (flat (x :: A)) (by omega) x _ (flat_dec hA)
        have ky := @decode1 ro hT (flat (y :: B)) (by omega) y _ (flat_dec hB)
        rw [← hsa] at kx
        rw [← hsb] at ky
        have hA' := allv_tail hA
        have hB' := allv_tail hB
        obtain ⟨n, hn⟩ : ∃ n, n = (enc x).length := ⟨_, rfl⟩
        obtain ⟨m, hm⟩ : ∃ m, m = (enc y).length := ⟨_, rfl⟩
        have ex1 : sa.extract 0 (Int.toNat (n : Int)) = bs (enc x) := by
          rw [hsa, bs_extract, Int.toNat_natCast, hn]
          congr 1
          exact flat_take x A
        have ex2 : sa.extract (Int.toNat (n : Int)) sa.size = bs (flat A) := by
          rw [sas, hsa, bs_extract, Int.toNat_natCast, hn, flat_drop]
          congr 1
          exact List.take_of_length_le (by omega)
        have ey1 : sb.extract 0 (Int.toNat (m : Int)) = bs (enc y) := by
          rw [hsb, bs_extract, Int.toNat_natCast, hm]
          congr 1
          exact flat_take y B
        have ey2 : sb.extract (Int.toNat (m : Int)) sb.size = bs (flat B) := by
          rw [sbs, hsb, bs_extract, Int.toNat_natCast, hm, flat_drop]
          congr 1
          exact List.take_of_length_le (by omega)
        have n0 := enc_pos x
        have m0 := enc_pos y
        rw [← hn] at kx hxl n0
        rw [← hm] at ky hyl m0
        have c2 : decide (0 ≤ (n : Int) ∧ (n : Int) ≤ (sa.size : Int)) = true := decide_eq_true (by omega)
        have c3 : decide (0 ≤ (m : Int) ∧ (m : Int) ≤ (sb.size : Int)) = true := decide_eq_true (by omega)
        have szx : (bs (enc x)).size = n := by rw [bs_size, hn]
        have szy : (bs (enc y)).size = m := by rw [bs_size, hm]
        rcases Nat.lt_trichotomy x y with h | h | h
        · have d1 : decide ((x : Int) ≤ (y : Int)) = true := decide_eq_true (by omega)
          have d2 : decide ((y : Int) ≤ (x : Int)) = false := decide_eq_false (by omega)
          have d3 : decide ((y : Int) < (x : Int)) = false := decide_eq_false (by omega)
          obtain ⟨Zx, hZx⟩ : ∃ Z : Int, Z = (x : Int) := ⟨_, rfl⟩
          obtain ⟨Zy, hZy⟩ : ∃ Z : Int, Z = (y : Int) := ⟨_, rfl⟩
          rw [← hZx] at kx
          rw [← hZy] at ky
          rw [← hZx, ← hZy] at d1 d2
          rw [← hZx, ← hZy] at d3
          conv => whnf
          repeat' ((first | ((with_reducible refine y'r ?_ ?_); (· decide +kernel)) | ((with_reducible refine y'g ?_ ?_); (· exact ⟨_, rfl⟩)) | (with_reducible first | refine y'b ‹_› ?_ | refine y'n ‹_› ?_ | refine y'1 ‹_› ?_ | refine y'2 ‹_› ?_ | refine y'3 ?_ | refine y'4 ?_) | ((with_reducible refine y'n ?_ ?_); (· first | with_reducible assumption | exact decide_eq_true (by omega) | decide +kernel)) | (with_reducible first | refine y'n (y'7 ‹_› ‹_›) ?_ | refine y'v (y'8 ‹_› ‹_›) (fun s hs => ?_)) | ((with_reducible refine y'n ?_ ?_); (· refine decide_eq_true ?_; simp only [ByteArray.size_append]; omega)) | (with_reducible refine And.intro ?_ ?_) | ((with_reducible refine y'p ?_ ?_); (· rfl)) | ((with_reducible refine y'q ?_ ?_); (· rfl)) | fail) <;> (conv => whnf))
          refine Fn.frame [] (by rfl) (by exact trivial) (by rfl) (kx ?_)
          conv => whnf
          repeat' ((first | ((with_reducible refine y'r ?_ ?_); (· decide +kernel)) | ((with_reducible refine y'g ?_ ?_); (· exact ⟨_, rfl⟩)) | (with_reducible first | refine y'b ‹_› ?_ | refine y'n ‹_› ?_ | refine y'1 ‹_› ?_ | refine y'2 ‹_› ?_ | refine y'3 ?_ | refine y'4 ?_) | ((with_reducible refine y'n ?_ ?_); (· first | with_reducible assumption | exact decide_eq_true (by omega) | decide +kernel)) | (with_reducible first | refine y'n (y'7 ‹_› ‹_›) ?_ | refine y'v (y'8 ‹_› ‹_›) (fun s hs => ?_)) | ((with_reducible refine y'n ?_ ?_); (· refine decide_eq_true ?_; simp only [ByteArray.size_append]; omega)) | (with_reducible refine And.intro ?_ ?_) | ((with_reducible refine y'p ?_ ?_); (· rfl)) | ((with_reducible refine y'q ?_ ?_); (· rfl)) | fail) <;> (conv => whnf))
          refine Fn.frame [] (by rfl) (by exact trivial) (by rfl) (ky ?_)
          conv => whnf
          repeat' ((first | ((with_reducible refine y'r ?_ ?_); (· decide +kernel)) | ((with_reducible refine y'g ?_ ?_); (· exact ⟨_, rfl⟩)) | (with_reducible first | refine y'b ‹_› ?_ | refine y'n ‹_› ?_ | refine y'1 ‹_› ?_ | refine y'2 ‹_› ?_ | refine y'3 ?_ | refine y'4 ?_) | ((with_reducible refine y'n ?_ ?_); (· first | with_reducible assumption | exact decide_eq_true (by omega) | decide +kernel)) | (with_reducible first | refine y'n (y'7 ‹_› ‹_›) ?_ | refine y'v (y'8 ‹_› ‹_›) (fun s hs => ?_)) | ((with_reducible refine y'n ?_ ?_); (· refine decide_eq_true ?_; simp only [ByteArray.size_append]; omega)) | (with_reducible refine And.intro ?_ ?_) | ((with_reducible refine y'p ?_ ?_); (· rfl)) | ((with_reducible refine y'q ?_ ?_); (· rfl)) | fail) <;> (conv => whnf))
          conv => whnf
          repeat' ((first | rw [ex1] | rw [ex2] | ((with_reducible refine y'r ?_ ?_); (· decide +kernel)) | ((with_reducible refine y'g ?_ ?_); (· exact ⟨_, rfl⟩)) | (with_reducible first | refine y'b ‹_› ?_ | refine y'n ‹_› ?_ | refine y'1 ‹_› ?_ | refine y'2 ‹_› ?_ | refine y'3 ?_ | refine y'4 ?_) | ((with_reducible refine y'n ?_ ?_); (· first | with_reducible assumption | exact decide_eq_true (by omega) | decide +kernel)) | (with_reducible first | refine y'n (y'7 ‹_› ‹_›) ?_ | refine y'v (y'8 ‹_› ‹_›) (fun s hs => ?_)) | ((with_reducible refine y'n ?_ ?_); (· refine decide_eq_true ?_; simp only [ByteArray.size_append]; omega)) | (with_reducible refine And.intro ?_ ?_) | ((with_reducible refine y'p ?_ ?_); (· rfl)) | ((with_reducible refine y'q ?_ ?_); (· rfl)) | fail) <;> (conv => whnf))
          exact ⟨_, by simp only [List.length_cons]; omega, Into.weak [] [(0, .a (.str (bs (flat A)))), (1, .a (.str sb)), (5, .a (.str (s ++ bs (enc x))))] [] ⟨S ++ enc x, A, (y :: B), _, _, _, hA', hB, (by rw [← hM, mg_lt A B h, flat_cons, List.append_assoc]), (by rw [List.length_append]; omega), (by rw [hs, bs_append]), rfl, hsb, rfl, rfl, rfl⟩ ⟨rfl, rfl, rfl, trivial⟩ trivial rfl⟩
        · have d1 : decide ((x : Int) ≤ (y : Int)) = true := decide_eq_true (by omega)
          have d2 : decide ((y : Int) ≤ (x : Int)) = true := decide_eq_true (by omega)
          have d3 : decide ((y : Int) < (x : Int)) = false := decide_eq_false (by omega)
          obtain ⟨Zx, hZx⟩ : ∃ Z : Int, Z = (x : Int) := ⟨_, rfl⟩
          obtain ⟨Zy, hZy⟩ : ∃ Z : Int, Z = (y : Int) := ⟨_, rfl⟩
          rw [← hZx] at kx
          rw [← hZy] at ky
          rw [← hZx, ← hZy] at d1 d2
          rw [← hZx, ← hZy] at d3
          conv => whnf
          repeat' ((first | ((with_reducible refine y'r ?_ ?_); (· decide +kernel)) | ((with_reducible refine y'g ?_ ?_); (· exact ⟨_, rfl⟩)) | (with_reducible first | refine y'b ‹_› ?_ | refine y'n ‹_› ?_ | refine y'1 ‹_› ?_ | refine y'2 ‹_› ?_ | refine y'3 ?_ | refine y'4 ?_) | ((with_reducible refine y'n ?_ ?_); (· first | with_reducible assumption | exact decide_eq_true (by omega) | decide +kernel)) | (with_reducible first | refine y'n (y'7 ‹_› ‹_›) ?_ | refine y'v (y'8 ‹_› ‹_›) (fun s hs => ?_)) | ((with_reducible refine y'n ?_ ?_); (· refine decide_eq_true ?_; simp only [ByteArray.size_append]; omega)) | (with_reducible refine And.intro ?_ ?_) | ((with_reducible refine y'p ?_ ?_); (· rfl)) | ((with_reducible refine y'q ?_ ?_); (· rfl)) | fail) <;> (conv => whnf))
          refine Fn.frame [] (by rfl) (by exact trivial) (by rfl) (kx ?_)
          conv => whnf
          repeat' ((first | ((with_reducible refine y'r ?_ ?_); (· decide +kernel)) | ((with_reducible refine y'g ?_ ?_); (· exact ⟨_, rfl⟩)) | (with_reducible first | refine y'b ‹_› ?_ | refine y'n ‹_› ?_ | refine y'1 ‹_› ?_ | refine y'2 ‹_› ?_ | refine y'3 ?_ | refine y'4 ?_) | ((with_reducible refine y'n ?_ ?_); (· first | with_reducible assumption | exact decide_eq_true (by omega) | decide +kernel)) | (with_reducible first | refine y'n (y'7 ‹_› ‹_›) ?_ | refine y'v (y'8 ‹_› ‹_›) (fun s hs => ?_)) | ((with_reducible refine y'n ?_ ?_); (· refine decide_eq_true ?_; simp only [ByteArray.size_append]; omega)) | (with_reducible refine And.intro ?_ ?_) | ((with_reducible refine y'p ?_ ?_); (· rfl)) | ((with_reducible refine y'q ?_ ?_); (· rfl)) | fail) <;> (conv => whnf))
          refine Fn.frame [] (by rfl) (by exact trivial) (by rfl) (ky ?_)
          conv => whnf
          repeat' ((first | ((with_reducible refine y'r ?_ ?_); (· decide +kernel)) | ((with_reducible refine y'g ?_ ?_); (· exact ⟨_, rfl⟩)) | (with_reducible first | refine y'b ‹_› ?_ | refine y'n ‹_› ?_ | refine y'1 ‹_› ?_ | refine y'2 ‹_› ?_ | refine y'3 ?_ | refine y'4 ?_) | ((with_reducible refine y'n ?_ ?_); (· first | with_reducible assumption | exact decide_eq_true (by omega) | decide +kernel)) | (with_reducible first | refine y'n (y'7 ‹_› ‹_›) ?_ | refine y'v (y'8 ‹_› ‹_›) (fun s hs => ?_)) | ((with_reducible refine y'n ?_ ?_); (· refine decide_eq_true ?_; simp only [ByteArray.size_append]; omega)) | (with_reducible refine And.intro ?_ ?_) | ((with_reducible refine y'p ?_ ?_); (· rfl)) | ((with_reducible refine y'q ?_ ?_); (· rfl)) | fail) <;> (conv => whnf))
          conv => whnf
          repeat' ((first | rw [ex1] | rw [ex2] | ((with_reducible refine y'r ?_ ?_); (· decide +kernel)) | ((with_reducible refine y'g ?_ ?_); (· exact ⟨_, rfl⟩)) | (with_reducible first | refine y'b ‹_› ?_ | refine y'n ‹_› ?_ | refine y'1 ‹_› ?_ | refine y'2 ‹_› ?_ | refine y'3 ?_ | refine y'4 ?_) | ((with_reducible refine y'n ?_ ?_); (· first | with_reducible assumption | exact decide_eq_true (by omega) | decide +kernel)) | (with_reducible first | refine y'n (y'7 ‹_› ‹_›) ?_ | refine y'v (y'8 ‹_› ‹_›) (fun s hs => ?_)) | ((with_reducible refine y'n ?_ ?_); (· refine decide_eq_true ?_; simp only [ByteArray.size_append]; omega)) | (with_reducible refine And.intro ?_ ?_) | ((with_reducible refine y'p ?_ ?_); (· rfl)) | ((with_reducible refine y'q ?_ ?_); (· rfl)) | fail) <;> (conv => whnf))
          conv => whnf
          repeat' ((first | rw [ey1] | rw [ey2] | ((with_reducible refine y'r ?_ ?_); (· decide +kernel)) | ((with_reducible refine y'g ?_ ?_); (· exact ⟨_, rfl⟩)) | (with_reducible first | refine y'b ‹_› ?_ | refine y'n ‹_› ?_ | refine y'1 ‹_› ?_ | refine y'2 ‹_› ?_ | refine y'3 ?_ | refine y'4 ?_) | ((with_reducible refine y'n ?_ ?_); (· first | with_reducible assumption | exact decide_eq_true (by omega) | decide +kernel)) | (with_reducible first | refine y'n (y'7 ‹_› ‹_›) ?_ | refine y'v (y'8 ‹_› ‹_›) (fun s hs => ?_)) | ((with_reducible refine y'n ?_ ?_); (· refine decide_eq_true ?_; simp only [ByteArray.size_append]; omega)) | (with_reducible refine And.intro ?_ ?_) | ((with_reducible refine y'p ?_ ?_); (· rfl)) | ((with_reducible refine y'q ?_ ?_); (· rfl)) | fail) <;> (conv => whnf))
          exact ⟨_, by simp only [List.length_cons]; omega, Into.weak [] [(0, .a (.str (bs (flat A)))), (1, .a (.str (bs (flat B)))), (5, .a (.str (s ++ bs (enc x))))] [] ⟨S ++ enc x, A, B, _, _, _, hA', hB', (by rw [← hM, ← h, mg_eq x A B, flat_cons, List.append_assoc]), (by rw [List.length_append]; omega), (by rw [hs, bs_append]), rfl, rfl, rfl, rfl, rfl⟩ ⟨rfl, rfl, rfl, trivial⟩ trivial rfl⟩
        · have d1 : decide ((x : Int) ≤ (y : Int)) = false := decide_eq_false (by omega)
          have d2 : decide ((y : Int) ≤ (x : Int)) = true := decide_eq_true (by omega)
          have d3 : decide ((y : Int) < (x : Int)) = true := decide_eq_true (by omega)
          obtain ⟨Zx, hZx⟩ : ∃ Z : Int, Z = (x : Int) := ⟨_, rfl⟩
          obtain ⟨Zy, hZy⟩ : ∃ Z : Int, Z = (y : Int) := ⟨_, rfl⟩
          rw [← hZx] at kx
          rw [← hZy] at ky
          rw [← hZx, ← hZy] at d1 d2
          rw [← hZx, ← hZy] at d3
          conv => whnf
          repeat' ((first | ((with_reducible refine y'r ?_ ?_); (· decide +kernel)) | ((with_reducible refine y'g ?_ ?_); (· exact ⟨_, rfl⟩)) | (with_reducible first | refine y'b ‹_› ?_ | refine y'n ‹_› ?_ | refine y'1 ‹_› ?_ | refine y'2 ‹_› ?_ | refine y'3 ?_ | refine y'4 ?_) | ((with_reducible refine y'n ?_ ?_); (· first | with_reducible assumption | exact decide_eq_true (by omega) | decide +kernel)) | (with_reducible first | refine y'n (y'7 ‹_› ‹_›) ?_ | refine y'v (y'8 ‹_› ‹_›) (fun s hs => ?_)) | ((with_reducible refine y'n ?_ ?_); (· refine decide_eq_true ?_; simp only [ByteArray.size_append]; omega)) | (with_reducible refine And.intro ?_ ?_) | ((with_reducible refine y'p ?_ ?_); (· rfl)) | ((with_reducible refine y'q ?_ ?_); (· rfl)) | fail) <;> (conv => whnf))
          refine Fn.frame [] (by rfl) (by exact trivial) (by rfl) (kx ?_)
          conv => whnf
          repeat' ((first | ((with_reducible refine y'r ?_ ?_); (· decide +kernel)) | ((with_reducible refine y'g ?_ ?_); (· exact ⟨_, rfl⟩)) | (with_reducible first | refine y'b ‹_› ?_ | refine y'n ‹_› ?_ | refine y'1 ‹_› ?_ | refine y'2 ‹_› ?_ | refine y'3 ?_ | refine y'4 ?_) | ((with_reducible refine y'n ?_ ?_); (· first | with_reducible assumption | exact decide_eq_true (by omega) | decide +kernel)) | (with_reducible first | refine y'n (y'7 ‹_› ‹_›) ?_ | refine y'v (y'8 ‹_› ‹_›) (fun s hs => ?_)) | ((with_reducible refine y'n ?_ ?_); (· refine decide_eq_true ?_; simp only [ByteArray.size_append]; omega)) | (with_reducible refine And.intro ?_ ?_) | ((with_reducible refine y'p ?_ ?_); (· rfl)) | ((with_reducible refine y'q ?_ ?_); (· rfl)) | fail) <;> (conv => whnf))
          refine Fn.frame [] (by rfl) (by exact trivial) (by rfl) (ky ?_)
          conv => whnf
          repeat' ((first | ((with_reducible refine y'r ?_ ?_); (· decide +kernel)) | ((with_reducible refine y'g ?_ ?_); (· exact ⟨_, rfl⟩)) | (with_reducible first | refine y'b ‹_› ?_ | refine y'n ‹_› ?_ | refine y'1 ‹_› ?_ | refine y'2 ‹_› ?_ | refine y'3 ?_ | refine y'4 ?_) | ((with_reducible refine y'n ?_ ?_); (· first | with_reducible assumption | exact decide_eq_true (by omega) | decide +kernel)) | (with_reducible first | refine y'n (y'7 ‹_› ‹_›) ?_ | refine y'v (y'8 ‹_› ‹_›) (fun s hs => ?_)) | ((with_reducible refine y'n ?_ ?_); (· refine decide_eq_true ?_; simp only [ByteArray.size_append]; omega)) | (with_reducible refine And.intro ?_ ?_) | ((with_reducible refine y'p ?_ ?_); (· rfl)) | ((with_reducible refine y'q ?_ ?_); (· rfl)) | fail) <;> (conv => whnf))
          conv => whnf
          repeat' ((first | rw [ey1] | rw [ey2] | ((with_reducible refine y'r ?_ ?_); (· decide +kernel)) | ((with_reducible refine y'g ?_ ?_); (· exact ⟨_, rfl⟩)) | (with_reducible first | refine y'b ‹_› ?_ | refine y'n ‹_› ?_ | refine y'1 ‹_› ?_ | refine y'2 ‹_› ?_ | refine y'3 ?_ | refine y'4 ?_) | ((with_reducible refine y'n ?_ ?_); (· first | with_reducible assumption | exact decide_eq_true (by omega) | decide +kernel)) | (with_reducible first | refine y'n (y'7 ‹_› ‹_›) ?_ | refine y'v (y'8 ‹_› ‹_›) (fun s hs => ?_)) | ((with_reducible refine y'n ?_ ?_); (· refine decide_eq_true ?_; simp only [ByteArray.size_append]; omega)) | (with_reducible refine And.intro ?_ ?_) | ((with_reducible refine y'p ?_ ?_); (· rfl)) | ((with_reducible refine y'q ?_ ?_); (· rfl)) | fail) <;> (conv => whnf))
          exact ⟨_, by simp only [List.length_cons]; omega, Into.weak [] [(0, .a (.str sa)), (1, .a (.str (bs (flat B)))), (5, .a (.str (s ++ bs (enc y))))] [] ⟨S ++ enc y, (x :: A), B, _, _, _, hA, hB', (by rw [← hM, mg_gt A B h, flat_cons, List.append_assoc]), (by rw [List.length_append]; omega), (by rw [hs, bs_append]), hsa, rfl, rfl, rfl, rfl⟩ ⟨rfl, rfl, rfl, trivial⟩ trivial rfl⟩
end
end Go.Proofs.YtimddbgnaeeggaaDoor.KD
