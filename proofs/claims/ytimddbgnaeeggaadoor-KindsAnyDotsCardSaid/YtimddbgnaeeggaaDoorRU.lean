import Derived.Test.YtimddbgnaeeggaaDoorRR
import Derived.Test.YtimddbgnaeeggaaDoorKG
import Derived.Test.YtimddbgnaeeggaaDoorKU
namespace Go.Proofs.YtimddbgnaeeggaaDoor.KD
open Go.Eng
set_option maxRecDepth 100000
/-- Is a number a rune? -/
def vrI (r : Int) : Bool := decide (0 ≤ r) && decide (vr r.toNat)
theorem vrI_nat (r : Nat) : vrI (r : Int) = decide (vr r) := by
  unfold vrI
  rw [Int.toNat_natCast, decide_eq_true (Int.natCast_nonneg r), Bool.true_and]
theorem b8i {x : Int} {n : Nat} (h : x = n) : UInt8.ofNat (IntKind.u8.wrap x).toNat = UInt8.ofNat n := by
  rw [h, wrap8, b8_ofNat, Int.toNat_natCast]
  exact UInt8.ofNat_toNat
section
variable {ro : Addr → A → Prop}
set_option maxHeartbeats 1000000 in
theorem isRune1 (r : Int) {K : V → Hp → Prop} (hK : K (.a (.bool (vrI r))) []) : Go.Eng.Fn Tryd.prog ro 66 [.a (.int .i32 r)] [] K := by
  have key : ∀ b, b = vrI r → K (.a (.bool b)) [] := fun b hb => by rw [hb]; exact hK
  refine Fn.weak ?_
  refine Fn.of_code (gOf []) Tryd.func66 rfl (Nat.le_of_ble_eq_true rfl) ?_
  by_cases h0 : 0 ≤ r
  · have c0 : decide (r ≥ 0) = true := decide_eq_true h0
    by_cases h1 : r ≤ 1114111
    · have c1 : decide (r ≤ 1114111) = true := decide_eq_true h1
      by_cases h2 : r < 55296
      · have c2 : decide (r < 55296) = true := decide_eq_true h2
        conv => whnf
        repeat' ((first | ((with_reducible refine y'r ?_ ?_); (· decide +kernel)) | ((with_reducible refine y'g ?_ ?_); (· exact ⟨_, rfl⟩)) | (with_reducible first | refine y'b ‹_› ?_ | refine y'n ‹_› ?_ | refine y'1 ‹_› ?_ | refine y'2 ‹_› ?_ | refine y'3 ?_ | refine y'4 ?_) | ((with_reducible refine y'n ?_ ?_); (· first | assumption | exact decide_eq_true (by omega) | decide +kernel)) | ((with_reducible refine y'b ?_ ?_); (· assumption)) | (with_reducible first | refine y'n (y'7 ‹_› ‹_›) ?_ | refine y'v (y'8 ‹_› ‹_›) (fun s hs => ?_) | refine y'5 ‹_› ?_ | refine y'6 ‹_› ?_) | ((with_reducible apply y'o); (· first | exact g0 | exact g1 | exact g2)) | ((with_reducible refine y'p ?_ ?_); (· rfl)) | ((with_reducible refine y'q ?_ ?_); (· rfl)) | fail) <;> (conv => whnf))
        exact keepOf (v₀ := .a (.bool true)) [] [] rfl trivial rfl (key _ (by unfold vrI; rw [decide_eq_true h0, decide_eq_true (by unfold vr; omega)]; rfl))
      · have c2 : decide (r < 55296) = false := decide_eq_false h2
        by_cases h3 : r > 57343
        · have c3 : decide (r > 57343) = true := decide_eq_true h3
          conv => whnf
          repeat' ((first | ((with_reducible refine y'r ?_ ?_); (· decide +kernel)) | ((with_reducible refine y'g ?_ ?_); (· exact ⟨_, rfl⟩)) | (with_reducible first | refine y'b ‹_› ?_ | refine y'n ‹_› ?_ | refine y'1 ‹_› ?_ | refine y'2 ‹_› ?_ | refine y'3 ?_ | refine y'4 ?_) | ((with_reducible refine y'n ?_ ?_); (· first | assumption | exact decide_eq_true (by omega) | decide +kernel)) | ((with_reducible refine y'b ?_ ?_); (· assumption)) | (with_reducible first | refine y'n (y'7 ‹_› ‹_›) ?_ | refine y'v (y'8 ‹_› ‹_›) (fun s hs => ?_) | refine y'5 ‹_› ?_ | refine y'6 ‹_› ?_) | ((with_reducible apply y'o); (· first | exact g0 | exact g1 | exact g2)) | ((with_reducible refine y'p ?_ ?_); (· rfl)) | ((with_reducible refine y'q ?_ ?_); (· rfl)) | fail) <;> (conv => whnf))
          exact keepOf (v₀ := .a (.bool true)) [] [] (congrArg (fun b => V.a (.bool b)) c3) trivial rfl (key _ (by unfold vrI; rw [decide_eq_true h0, decide_eq_true (by unfold vr; omega)]; rfl))
        · have c3 : decide (r > 57343) = false := decide_eq_false h3
          conv => whnf
          repeat' ((first | ((with_reducible refine y'r ?_ ?_); (· decide +kernel)) | ((with_reducible refine y'g ?_ ?_); (· exact ⟨_, rfl⟩)) | (with_reducible first | refine y'b ‹_› ?_ | refine y'n ‹_› ?_ | refine y'1 ‹_› ?_ | refine y'2 ‹_› ?_ | refine y'3 ?_ | refine y'4 ?_) | ((with_reducible refine y'n ?_ ?_); (· first | assumption | exact decide_eq_true (by omega) | decide +kernel)) | ((with_reducible refine y'b ?_ ?_); (· assumption)) | (with_reducible first | refine y'n (y'7 ‹_› ‹_›) ?_ | refine y'v (y'8 ‹_› ‹_›) (fun s hs => ?_) | refine y'5 ‹_› ?_ | refine y'6 ‹_› ?_) | ((with_reducible apply y'o); (· first | exact g0 | exact g1 | exact g2)) | ((with_reducible refine y'p ?_ ?_); (· rfl)) | ((with_reducible refine y'q ?_ ?_); (· rfl)) | fail) <;> (conv => whnf))
          exact keepOf (v₀ := .a (.bool false)) [] [] (congrArg (fun b => V.a (.bool b)) c3) trivial rfl (key _ (by unfold vrI; rw [decide_eq_true h0, decide_eq_false (by unfold vr; omega)]; rfl))
    · have c1 : decide (r ≤ 1114111) = false := decide_eq_false h1
      conv => whnf
      repeat' ((first | ((with_reducible refine y'r ?_ ?_); (· decide +kernel)) | ((with_reducible refine y'g ?_ ?_); (· exact ⟨_, rfl⟩)) | (with_reducible first | refine y'b ‹_› ?_ | refine y'n ‹_› ?_ | refine y'1 ‹_› ?_ | refine y'2 ‹_› ?_ | refine y'3 ?_ | refine y'4 ?_) | ((with_reducible refine y'n ?_ ?_); (· first | assumption | exact decide_eq_true (by omega) | decide +kernel)) | ((with_reducible refine y'b ?_ ?_); (· assumption)) | (with_reducible first | refine y'n (y'7 ‹_› ‹_›) ?_ | refine y'v (y'8 ‹_› ‹_›) (fun s hs => ?_) | refine y'5 ‹_› ?_ | refine y'6 ‹_› ?_) | ((with_reducible apply y'o); (· first | exact g0 | exact g1 | exact g2)) | ((with_reducible refine y'p ?_ ?_); (· rfl)) | ((with_reducible refine y'q ?_ ?_); (· rfl)) | fail) <;> (conv => whnf))
      exact keepOf (v₀ := .a (.bool false)) [] [] rfl trivial rfl (key _ (by unfold vrI; rw [decide_eq_true h0, decide_eq_false (by unfold vr; omega)]; rfl))
  · have c0 : decide (r ≥ 0) = false := decide_eq_false h0
    conv => whnf
    repeat' ((first | ((with_reducible refine y'r ?_ ?_); (· decide +kernel)) | ((with_reducible refine y'g ?_ ?_); (· exact ⟨_, rfl⟩)) | (with_reducible first | refine y'b ‹_› ?_ | refine y'n ‹_› ?_ | refine y'1 ‹_› ?_ | refine y'2 ‹_› ?_ | refine y'3 ?_ | refine y'4 ?_) | ((with_reducible refine y'n ?_ ?_); (· first | assumption | exact decide_eq_true (by omega) | decide +kernel)) | ((with_reducible refine y'b ?_ ?_); (· assumption)) | (with_reducible first | refine y'n (y'7 ‹_› ‹_›) ?_ | refine y'v (y'8 ‹_› ‹_›) (fun s hs => ?_) | refine y'5 ‹_› ?_ | refine y'6 ‹_› ?_) | ((with_reducible apply y'o); (· first | exact g0 | exact g1 | exact g2)) | ((with_reducible refine y'p ?_ ?_); (· rfl)) | ((with_reducible refine y'q ?_ ?_); (· rfl)) | fail) <;> (conv => whnf))
    exact keepOf (v₀ := .a (.bool false)) [] [] rfl trivial rfl (key _ (by unfold vrI; rw [decide_eq_false h0]; rfl))
set_option maxHeartbeats 2000000 in
theorem coded1 (r : Nat) (hr : r < 1114112) {K : V → Hp → Prop} (hK : K (.a (.str (bs (enc r)))) []) : Go.Eng.Fn Tryd.prog ro 89 [.a (.int .i32 (r : Int))] [] K := by
  obtain ⟨z, hz⟩ : ∃ z : Int, z = (r : Int) := ⟨_, rfl⟩
  rw [← hz]
  refine Fn.weak ?_
  refine Fn.of_code (gOf []) Tryd.func89 rfl (Nat.le_of_ble_eq_true rfl) ?_
  by_cases h1 : r < 128
  · have d1 : decide (z < 128) = true := decide_eq_true (by omega)
    conv => whnf
    repeat' ((first | ((with_reducible refine y'r ?_ ?_); (· decide +kernel)) | ((with_reducible refine y'g ?_ ?_); (· exact ⟨_, rfl⟩)) | (with_reducible first | refine y'b ‹_› ?_ | refine y'n ‹_› ?_ | refine y'1 ‹_› ?_ | refine y'2 ‹_› ?_ | refine y'3 ?_ | refine y'4 ?_) | ((with_reducible refine y'n ?_ ?_); (· first | assumption | exact decide_eq_true (by omega) | decide +kernel)) | ((with_reducible refine y'b ?_ ?_); (· assumption)) | (with_reducible first | refine y'n (y'7 ‹_› ‹_›) ?_ | refine y'v (y'8 ‹_› ‹_›) (fun s hs => ?_) | refine y'5 ‹_› ?_ | refine y'6 ‹_› ?_) | ((with_reducible apply y'o); (· first | exact g0 | exact g1 | exact g2)) | ((with_reducible refine y'p ?_ ?_); (· rfl)) | ((with_reducible refine y'q ?_ ?_); (· rfl)) | fail) <;> (conv => whnf))
    refine keepOf (v₀ := .a (.str (bs (enc r)))) [] [] ?_ trivial rfl hK
    rw [b8i (n := r) (x := z) hz, enc1 h1]
    rfl
  have d1 : decide (z < 128) = false := decide_eq_false (by omega)
  by_cases h2 : r < 2048
  · have d2 : decide (z < 2048) = true := decide_eq_true (by omega)
    conv => whnf
    repeat' ((first | ((with_reducible refine y'r ?_ ?_); (· decide +kernel)) | ((with_reducible refine y'g ?_ ?_); (· exact ⟨_, rfl⟩)) | (with_reducible first | refine y'b ‹_› ?_ | refine y'n ‹_› ?_ | refine y'1 ‹_› ?_ | refine y'2 ‹_› ?_ | refine y'3 ?_ | refine y'4 ?_) | ((with_reducible refine y'n ?_ ?_); (· first | assumption | exact decide_eq_true (by omega) | decide +kernel)) | ((with_reducible refine y'b ?_ ?_); (· assumption)) | (with_reducible first | refine y'n (y'7 ‹_› ‹_›) ?_ | refine y'v (y'8 ‹_› ‹_›) (fun s hs => ?_) | refine y'5 ‹_› ?_ | refine y'6 ‹_› ?_) | ((with_reducible apply y'o); (· first | exact g0 | exact g1 | exact g2)) | ((with_reducible refine y'p ?_ ?_); (· rfl)) | ((with_reducible refine y'q ?_ ?_); (· rfl)) | fail) <;> (conv => whnf))
    refine keepOf (v₀ := .a (.str (bs (enc r)))) [] [] ?_ trivial rfl hK
    rw [b8i (n := 192 + r / 64) (x := IntKind.i32.wrap (192 + IntKind.i32.wrap (z.tdiv 64))) (by rw [show z.tdiv 64 = ((r / 64 : Nat) : Int) by rw [hz]; rw [Int.tdiv_eq_ediv_of_nonneg (by omega)]; omega, i32w (x := ((r / 64 : Nat) : Int)) (by omega), i32w (by omega)]; omega), b8i (n := 128 + r % 64) (x := IntKind.i32.wrap (128 + z.tmod 64)) (by rw [show z.tmod 64 = ((r % 64 : Nat) : Int) by rw [hz]; rw [Int.tmod_eq_emod_of_nonneg (by omega)]; omega, i32w (by omega)]; omega), enc2 h1 h2]
    rfl
  have d2 : decide (z < 2048) = false := decide_eq_false (by omega)
  by_cases h3 : r < 65536
  · have d3 : decide (z < 65536) = true := decide_eq_true (by omega)
    conv => whnf
    repeat' ((first | ((with_reducible refine y'r ?_ ?_); (· decide +kernel)) | ((with_reducible refine y'g ?_ ?_); (· exact ⟨_, rfl⟩)) | (with_reducible first | refine y'b ‹_› ?_ | refine y'n ‹_› ?_ | refine y'1 ‹_› ?_ | refine y'2 ‹_› ?_ | refine y'3 ?_ | refine y'4 ?_) | ((with_reducible refine y'n ?_ ?_); (· first | assumption | exact decide_eq_true (by omega) | decide +kernel)) | ((with_reducible refine y'b ?_ ?_); (· assumption)) | (with_reducible first | refine y'n (y'7 ‹_› ‹_›) ?_ | refine y'v (y'8 ‹_› ‹_›) (fun s hs => ?_) | refine y'5 ‹_› ?_ | refine y'6 ‹_› ?_) | ((with_reducible apply y'o); (· first | exact g0 | exact g1 | exact g2)) | ((with_reducible refine y'p ?_ ?_); (· rfl)) | ((with_reducible refine y'q ?_ ?_); (· rfl)) | fail) <;> (conv => whnf))
    refine keepOf (v₀ := .a (.str (bs (enc r)))) [] [] ?_ trivial rfl hK
    rw [b8i (n := 224 + r / 4096) (x := IntKind.i32.wrap (224 + IntKind.i32.wrap (z.tdiv 4096))) (by rw [show z.tdiv 4096 = ((r / 4096 : Nat) : Int) by rw [hz]; rw [Int.tdiv_eq_ediv_of_nonneg (by omega)]; omega, i32w (x := ((r / 4096 : Nat) : Int)) (by omega), i32w (by omega)]; omega), b8i (n := 128 + r / 64 % 64) (x := IntKind.i32.wrap (128 + (IntKind.i32.wrap (z.tdiv 64)).tmod 64)) (by rw [show z.tdiv 64 = ((r / 64 : Nat) : Int) by rw [hz]; rw [Int.tdiv_eq_ediv_of_nonneg (by omega)]; omega, i32w (x := ((r / 64 : Nat) : Int)) (by omega), show ((r / 64 : Nat) : Int).tmod 64 = ((r / 64 % 64 : Nat) : Int) by rw [Int.tmod_eq_emod_of_nonneg (by omega)]; omega, i32w (by omega)]; omega), b8i (n := 128 + r % 64) (x := IntKind.i32.wrap (128 + z.tmod 64)) (by rw [show z.tmod 64 = ((r % 64 : Nat) : Int) by rw [hz]; rw [Int.tmod_eq_emod_of_nonneg (by omega)]; omega, i32w (by omega)]; omega), enc3 h2 h3]
    rfl
  have d3 : decide (z < 65536) = false := decide_eq_false (by omega)
  conv => whnf
  repeat' ((first | ((with_reducible refine y'r ?_ ?_); (· decide +kernel)) | ((with_reducible refine y'g ?_ ?_); (· exact ⟨_, rfl⟩)) | (with_reducible first | refine y'b ‹_› ?_ | refine y'n ‹_› ?_ | refine y'1 ‹_› ?_ | refine y'2 ‹_› ?_ | refine y'3 ?_ | refine y'4 ?_) | ((with_reducible refine y'n ?_ ?_); (· first | assumption | exact decide_eq_true (by omega) | decide +kernel)) | ((with_reducible refine y'b ?_ ?_); (· assumption)) | (with_reducible first | refine y'n (y'7 ‹_› ‹_›) ?_ | refine y'v (y'8 ‹_› ‹_›) (fun s hs => ?_) | refine y'5 ‹_› ?_ | refine y'6 ‹_› ?_) | ((with_reducible apply y'o); (· first | exact g0 | exact g1 | exact g2)) | ((with_reducible refine y'p ?_ ?_); (· rfl)) | ((with_reducible refine y'q ?_ ?_); (· rfl)) | fail) <;> (conv => whnf))
  refine keepOf (v₀ := .a (.str (bs (enc r)))) [] [] ?_ trivial rfl hK
  rw [b8i (n := 240 + r / 262144) (x := IntKind.i32.wrap (240 + IntKind.i32.wrap (z.tdiv 262144))) (by rw [show z.tdiv 262144 = ((r / 262144 : Nat) : Int) by rw [hz]; rw [Int.tdiv_eq_ediv_of_nonneg (by omega)]; omega, i32w (x := ((r / 262144 : Nat) : Int)) (by omega), i32w (by omega)]; omega), b8i (n := 128 + r / 4096 % 64) (x := IntKind.i32.wrap (128 + (IntKind.i32.wrap (z.tdiv 4096)).tmod 64)) (by rw [show z.tdiv 4096 = ((r / 4096 : Nat) : Int) by rw [hz]; rw [Int.tdiv_eq_ediv_of_nonneg (by omega)]; omega, i32w (x := ((r / 4096 : Nat) : Int)) (by omega), show ((r / 4096 : Nat) : Int).tmod 64 = ((r / 4096 % 64 : Nat) : Int) by rw [Int.tmod_eq_emod_of_nonneg (by omega)]; omega, i32w (by omega)]; omega), b8i (n := 128 + r / 64 % 64) (x := IntKind.i32.wrap (128 + (IntKind.i32.wrap (z.tdiv 64)).tmod 64)) (by rw [show z.tdiv 64 = ((r / 64 : Nat) : Int) by rw [hz]; rw [Int.tdiv_eq_ediv_of_nonneg (by omega)]; omega, i32w (x := ((r / 64 : Nat) : Int)) (by omega), show ((r / 64 : Nat) : Int).tmod 64 = ((r / 64 % 64 : Nat) : Int) by rw [Int.tmod_eq_emod_of_nonneg (by omega)]; omega, i32w (by omega)]; omega), b8i (n := 128 + r % 64) (x := IntKind.i32.wrap (128 + z.tmod 64)) (by rw [show z.tmod 64 = ((r % 64 : Nat) : Int) by rw [hz]; rw [Int.tmod_eq_emod_of_nonneg (by omega)]; omega, i32w (by omega)]; omega), enc4 h3]
  rfl
end
end Go.Proofs.YtimddbgnaeeggaaDoor.KD
