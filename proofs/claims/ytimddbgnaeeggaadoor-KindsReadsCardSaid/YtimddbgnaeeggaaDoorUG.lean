import Derived.Test.YtimddbgnaeeggaaDoorUK
import Derived.Test.YtimddbgnaeeggaaDoorKJ
import Derived.Test.YtimddbgnaeeggaaDoorRZ
import Derived.Test.YtimddbgnaeeggaaDoorRE
import Derived.Test.YtimddbgnaeeggaaDoorRH
namespace Go.Proofs.YtimddbgnaeeggaaDoor.KD
open Go.Eng
set_option maxRecDepth 100000
theorem i32s_eng (L : List Nat) : Go.Eng.i32s L = KD.i32s L := by unfold Go.Eng.i32s KD.i32s; rfl
theorem runesGo_flat (rs : List Nat) (hv : AllV rs) : ∀ (n i : Nat) (P : List UInt8), P.length = i → rs.length ≤ n → runesGo (bs (P ++ flat rs)) n i = rs := by
  induction rs with
  | nil =>
    intro n i P hP _
    cases n with
    | zero => rfl
    | succ n =>
      unfold runesGo
      rw [if_neg (by rw [bs_size, flat_nil, List.append_nil]; omega)]
  | cons r rs ih =>
    intro n i P hP hn
    cases n with
    | zero => simp at hn
    | succ n =>
      have hp := enc_pos r
      have hd : decL ((P ++ flat (r :: rs)).drop i) = some (r, (enc r).length) := by
        rw [List.drop_left' hP]; exact flat_dec hv
      have hl : i < (P ++ flat (r :: rs)).length := by rw [List.length_append, flat_clen]; omega
      have he : Utf8.decode (bs (P ++ flat (r :: rs))) i = (r, (enc r).length) := by
        rcases decode_bs (P ++ flat (r :: rs)) i with h | h
        · rw [h, hd]; rfl
        · omega
      unfold runesGo
      rw [if_pos (by rw [bs_size]; exact hl), he]
      congr 1
      have e : P ++ flat (r :: rs) = (P ++ enc r) ++ flat rs := by rw [flat_cons, List.append_assoc]
      show runesGo (bs (P ++ flat (r :: rs))) n (i + (enc r).length) = rs
      rw [e]
      exact ih (allv_tail hv) n _ (P ++ enc r) (by rw [List.length_append, hP]) (by simpa using hn)
theorem flat_few (rs : List Nat) : rs.length ≤ (flat rs).length := by
  induction rs with
  | nil => exact Nat.zero_le _
  | cons r rs ih => rw [flat_clen, List.length_cons]; have := enc_pos r; omega
theorem runesL_flat {rs : List Nat} (hv : AllV rs) : runesL (bs (flat rs)) = rs := by
  unfold runesL
  rw [bs_size]
  exact runesGo_flat rs hv _ 0 [] rfl (flat_few rs)
section
variable {ro : Addr → A → Prop}
set_option maxHeartbeats 1000000 in
theorem asFlag0 (L : List UInt8) (h : kd L ≠ 1) {K : V → Hp → Prop} (hK : K (.t [.a (.bool false), .a (.int .i64 120)]) []) : Go.Eng.Fn Tryd.prog ro 33 [.a (.str (bs L))] [] K := by
  have g0 := True.intro
  have g1 := True.intro
  have k := @kindB ro L
  obtain ⟨z, hz⟩ : ∃ z : Int, z = (kd L : Int) := ⟨_, rfl⟩
  rw [← hz] at k
  refine Fn.weak ?_
  refine Fn.of_code (gOf []) Tryd.func33 rfl (Nat.le_of_ble_eq_true rfl) ?_
  have c0 : (z != 1) = true := by simp; omega
  generalize bs L = s at *
  conv => whnf
  repeat' ((first | ((with_reducible refine y'r ?_ ?_); (· decide +kernel)) | ((with_reducible refine y'g ?_ ?_); (· exact ⟨_, rfl⟩)) | (with_reducible first | refine y'b ‹_› ?_ | refine y'n ‹_› ?_ | refine y'1 ‹_› ?_ | refine y'2 ‹_› ?_ | refine y'3 ?_ | refine y'4 ?_) | ((with_reducible refine y'n ?_ ?_); (· first | with_reducible assumption | exact decide_eq_true (by omega) | decide +kernel)) | (with_reducible first | refine y'n (y'7 ‹_› ‹_›) ?_ | refine y'v (y'8 ‹_› ‹_›) (fun s hs => ?_) | refine y'5 ‹_› ?_ | refine y'6 ‹_› ?_) | ((with_reducible apply y'o); (· first | exact g0 | exact g1)) | ((with_reducible refine y'p ?_ ?_); (· rfl)) | ((with_reducible refine y'q ?_ ?_); (· rfl)) | fail) <;> (conv => whnf))
  refine Fn.frame [] (by rfl) (by exact trivial) (by rfl) (k ?_)
  conv => whnf
  repeat' ((first | ((with_reducible refine y'r ?_ ?_); (· decide +kernel)) | ((with_reducible refine y'g ?_ ?_); (· exact ⟨_, rfl⟩)) | (with_reducible first | refine y'b ‹_› ?_ | refine y'n ‹_› ?_ | refine y'1 ‹_› ?_ | refine y'2 ‹_› ?_ | refine y'3 ?_ | refine y'4 ?_) | ((with_reducible refine y'n ?_ ?_); (· first | with_reducible assumption | exact decide_eq_true (by omega) | decide +kernel)) | (with_reducible first | refine y'n (y'7 ‹_› ‹_›) ?_ | refine y'v (y'8 ‹_› ‹_›) (fun s hs => ?_) | refine y'5 ‹_› ?_ | refine y'6 ‹_› ?_) | ((with_reducible apply y'o); (· first | exact g0 | exact g1)) | ((with_reducible refine y'p ?_ ?_); (· rfl)) | ((with_reducible refine y'q ?_ ?_); (· rfl)) | fail) <;> (conv => whnf))
  exact keepOf (v₀ := .t [.a (.bool false), .a (.int .i64 120)]) [] [] rfl trivial rfl hK
set_option maxHeartbeats 1000000 in
theorem asReal0 (L : List UInt8) (h : kd L ≠ 2) {K : V → Hp → Prop} (hK : K (.t [.a (.flt .f64 0), .a (.int .i64 120)]) []) : Go.Eng.Fn Tryd.prog ro 18 [.a (.str (bs L))] [] K := by
  have g0 := True.intro
  have g1 := True.intro
  have k := @kindB ro L
  obtain ⟨z, hz⟩ : ∃ z : Int, z = (kd L : Int) := ⟨_, rfl⟩
  rw [← hz] at k
  refine Fn.weak ?_
  refine Fn.of_code (gOf []) Tryd.func18 rfl (Nat.le_of_ble_eq_true rfl) ?_
  have c0 : (z != 2) = true := by simp; omega
  generalize bs L = s at *
  conv => whnf
  repeat' ((first | ((with_reducible refine y'r ?_ ?_); (· decide +kernel)) | ((with_reducible refine y'g ?_ ?_); (· exact ⟨_, rfl⟩)) | (with_reducible first | refine y'b ‹_› ?_ | refine y'n ‹_› ?_ | refine y'1 ‹_› ?_ | refine y'2 ‹_› ?_ | refine y'3 ?_ | refine y'4 ?_) | ((with_reducible refine y'n ?_ ?_); (· first | with_reducible assumption | exact decide_eq_true (by omega) | decide +kernel)) | (with_reducible first | refine y'n (y'7 ‹_› ‹_›) ?_ | refine y'v (y'8 ‹_› ‹_›) (fun s hs => ?_) | refine y'5 ‹_› ?_ | refine y'6 ‹_› ?_) | ((with_reducible apply y'o); (· first | exact g0 | exact g1)) | ((with_reducible refine y'p ?_ ?_); (· rfl)) | ((with_reducible refine y'q ?_ ?_); (· rfl)) | fail) <;> (conv => whnf))
  refine Fn.frame [] (by rfl) (by exact trivial) (by rfl) (k ?_)
  conv => whnf
  repeat' ((first | ((with_reducible refine y'r ?_ ?_); (· decide +kernel)) | ((with_reducible refine y'g ?_ ?_); (· exact ⟨_, rfl⟩)) | (with_reducible first | refine y'b ‹_› ?_ | refine y'n ‹_› ?_ | refine y'1 ‹_› ?_ | refine y'2 ‹_› ?_ | refine y'3 ?_ | refine y'4 ?_) | ((with_reducible refine y'n ?_ ?_); (· first | with_reducible assumption | exact decide_eq_true (by omega) | decide +kernel)) | (with_reducible first | refine y'n (y'7 ‹_› ‹_›) ?_ | refine y'v (y'8 ‹_› ‹_›) (fun s hs => ?_) | refine y'5 ‹_› ?_ | refine y'6 ‹_› ?_) | ((with_reducible apply y'o); (· first | exact g0 | exact g1)) | ((with_reducible refine y'p ?_ ?_); (· rfl)) | ((with_reducible refine y'q ?_ ?_); (· rfl)) | fail) <;> (conv => whnf))
  exact keepOf (v₀ := .t [.a (.flt .f64 0), .a (.int .i64 120)]) [] [] rfl trivial rfl hK
set_option maxHeartbeats 1000000 in
theorem asCorner0 (L : List UInt8) (h : kd L ≠ 5) {K : V → Hp → Prop} (hK : K (.t [.a (.cpx .f64 0 0), .a (.int .i64 120)]) []) : Go.Eng.Fn Tryd.prog ro 19 [.a (.str (bs L))] [] K := by
  have g0 := True.intro
  have g1 := True.intro
  have k := @kindB ro L
  obtain ⟨z, hz⟩ : ∃ z : Int, z = (kd L : Int) := ⟨_, rfl⟩
  rw [← hz] at k
  refine Fn.weak ?_
  refine Fn.of_code (gOf []) Tryd.func19 rfl (Nat.le_of_ble_eq_true rfl) ?_
  have c0 : (z != 5) = true := by simp; omega
  generalize bs L = s at *
  conv => whnf
  repeat' ((first | ((with_reducible refine y'r ?_ ?_); (· decide +kernel)) | ((with_reducible refine y'g ?_ ?_); (· exact ⟨_, rfl⟩)) | (with_reducible first | refine y'b ‹_› ?_ | refine y'n ‹_› ?_ | refine y'1 ‹_› ?_ | refine y'2 ‹_› ?_ | refine y'3 ?_ | refine y'4 ?_) | ((with_reducible refine y'n ?_ ?_); (· first | with_reducible assumption | exact decide_eq_true (by omega) | decide +kernel)) | (with_reducible first | refine y'n (y'7 ‹_› ‹_›) ?_ | refine y'v (y'8 ‹_› ‹_›) (fun s hs => ?_) | refine y'5 ‹_› ?_ | refine y'6 ‹_› ?_) | ((with_reducible apply y'o); (· first | exact g0 | exact g1)) | ((with_reducible refine y'p ?_ ?_); (· rfl)) | ((with_reducible refine y'q ?_ ?_); (· rfl)) | fail) <;> (conv => whnf))
  refine Fn.frame [] (by rfl) (by exact trivial) (by rfl) (k ?_)
  conv => whnf
  repeat' ((first | ((with_reducible refine y'r ?_ ?_); (· decide +kernel)) | ((with_reducible refine y'g ?_ ?_); (· exact ⟨_, rfl⟩)) | (with_reducible first | refine y'b ‹_› ?_ | refine y'n ‹_› ?_ | refine y'1 ‹_› ?_ | refine y'2 ‹_› ?_ | refine y'3 ?_ | refine y'4 ?_) | ((with_reducible refine y'n ?_ ?_); (· first | with_reducible assumption | exact decide_eq_true (by omega) | decide +kernel)) | (with_reducible first | refine y'n (y'7 ‹_› ‹_›) ?_ | refine y'v (y'8 ‹_› ‹_›) (fun s hs => ?_) | refine y'5 ‹_› ?_ | refine y'6 ‹_› ?_) | ((with_reducible apply y'o); (· first | exact g0 | exact g1)) | ((with_reducible refine y'p ?_ ?_); (· rfl)) | ((with_reducible refine y'q ?_ ?_); (· rfl)) | fail) <;> (conv => whnf))
  exact keepOf (v₀ := .t [.a (.cpx .f64 0 0), .a (.int .i64 120)]) [] [] rfl trivial rfl hK
set_option maxHeartbeats 1000000 in
theorem asTally0 (L : List UInt8) (h : kd L ≠ 3) {K : V → Hp → Prop} (hK : K (.t [.a (.int .i32 0), .a (.int .i64 120)]) []) : Go.Eng.Fn Tryd.prog ro 31 [.a (.str (bs L))] [] K := by
  have g0 := True.intro
  have g1 := True.intro
  have k := @kindB ro L
  obtain ⟨z, hz⟩ : ∃ z : Int, z = (kd L : Int) := ⟨_, rfl⟩
  rw [← hz] at k
  refine Fn.weak ?_
  refine Fn.of_code (gOf []) Tryd.func31 rfl (Nat.le_of_ble_eq_true rfl) ?_
  have c0 : (z != 3) = true := by simp; omega
  generalize bs L = s at *
  conv => whnf
  repeat' ((first | ((with_reducible refine y'r ?_ ?_); (· decide +kernel)) | ((with_reducible refine y'g ?_ ?_); (· exact ⟨_, rfl⟩)) | (with_reducible first | refine y'b ‹_› ?_ | refine y'n ‹_› ?_ | refine y'1 ‹_› ?_ | refine y'2 ‹_› ?_ | refine y'3 ?_ | refine y'4 ?_) | ((with_reducible refine y'n ?_ ?_); (· first | with_reducible assumption | exact decide_eq_true (by omega) | decide +kernel)) | (with_reducible first | refine y'n (y'7 ‹_› ‹_›) ?_ | refine y'v (y'8 ‹_› ‹_›) (fun s hs => ?_) | refine y'5 ‹_› ?_ | refine y'6 ‹_› ?_) | ((with_reducible apply y'o); (· first | exact g0 | exact g1)) | ((with_reducible refine y'p ?_ ?_); (· rfl)) | ((with_reducible refine y'q ?_ ?_); (· rfl)) | fail) <;> (conv => whnf))
  refine Fn.frame [] (by rfl) (by exact trivial) (by rfl) (k ?_)
  conv => whnf
  repeat' ((first | ((with_reducible refine y'r ?_ ?_); (· decide +kernel)) | ((with_reducible refine y'g ?_ ?_); (· exact ⟨_, rfl⟩)) | (with_reducible first | refine y'b ‹_› ?_ | refine y'n ‹_› ?_ | refine y'1 ‹_› ?_ | refine y'2 ‹_› ?_ | refine y'3 ?_ | refine y'4 ?_) | ((with_reducible refine y'n ?_ ?_); (· first | with_reducible assumption | exact decide_eq_true (by omega) | decide +kernel)) | (with_reducible first | refine y'n (y'7 ‹_› ‹_›) ?_ | refine y'v (y'8 ‹_› ‹_›) (fun s hs => ?_) | refine y'5 ‹_› ?_ | refine y'6 ‹_› ?_) | ((with_reducible apply y'o); (· first | exact g0 | exact g1)) | ((with_reducible refine y'p ?_ ?_); (· rfl)) | ((with_reducible refine y'q ?_ ?_); (· rfl)) | fail) <;> (conv => whnf))
  exact keepOf (v₀ := .t [.a (.int .i32 0), .a (.int .i64 120)]) [] [] rfl trivial rfl hK
set_option maxHeartbeats 1000000 in
theorem asRunes0 (L : List UInt8) (h : kd L ≠ 4) {K : V → Hp → Prop} (hK : K (.t [.a .nils, .a (.int .i64 120)]) []) : Go.Eng.Fn Tryd.prog ro 34 [.a (.str (bs L))] [] K := by
  have g0 := True.intro
  have g1 := True.intro
  have k := @kindB ro L
  obtain ⟨z, hz⟩ : ∃ z : Int, z = (kd L : Int) := ⟨_, rfl⟩
  rw [← hz] at k
  refine Fn.weak ?_
  refine Fn.of_code (gOf []) Tryd.func34 rfl (Nat.le_of_ble_eq_true rfl) ?_
  have c0 : (z != 4) = true := by simp; omega
  generalize bs L = s at *
  conv => whnf
  repeat' ((first | ((with_reducible refine y'r ?_ ?_); (· decide +kernel)) | ((with_reducible refine y'g ?_ ?_); (· exact ⟨_, rfl⟩)) | (with_reducible first | refine y'b ‹_› ?_ | refine y'n ‹_› ?_ | refine y'1 ‹_› ?_ | refine y'2 ‹_› ?_ | refine y'3 ?_ | refine y'4 ?_) | ((with_reducible refine y'n ?_ ?_); (· first | with_reducible assumption | exact decide_eq_true (by omega) | decide +kernel)) | (with_reducible first | refine y'n (y'7 ‹_› ‹_›) ?_ | refine y'v (y'8 ‹_› ‹_›) (fun s hs => ?_) | refine y'5 ‹_› ?_ | refine y'6 ‹_› ?_) | ((with_reducible apply y'o); (· first | exact g0 | exact g1)) | ((with_reducible refine y'p ?_ ?_); (· rfl)) | ((with_reducible refine y'q ?_ ?_); (· rfl)) | fail) <;> (conv => whnf))
  refine Fn.frame [] (by rfl) (by exact trivial) (by rfl) (k ?_)
  conv => whnf
  repeat' ((first | ((with_reducible refine y'r ?_ ?_); (· decide +kernel)) | ((with_reducible refine y'g ?_ ?_); (· exact ⟨_, rfl⟩)) | (with_reducible first | refine y'b ‹_› ?_ | refine y'n ‹_› ?_ | refine y'1 ‹_› ?_ | refine y'2 ‹_› ?_ | refine y'3 ?_ | refine y'4 ?_) | ((with_reducible refine y'n ?_ ?_); (· first | with_reducible assumption | exact decide_eq_true (by omega) | decide +kernel)) | (with_reducible first | refine y'n (y'7 ‹_› ‹_›) ?_ | refine y'v (y'8 ‹_› ‹_›) (fun s hs => ?_) | refine y'5 ‹_› ?_ | refine y'6 ‹_› ?_) | ((with_reducible apply y'o); (· first | exact g0 | exact g1)) | ((with_reducible refine y'p ?_ ?_); (· rfl)) | ((with_reducible refine y'q ?_ ?_); (· rfl)) | fail) <;> (conv => whnf))
  exact keepOf (v₀ := .t [.a .nils, .a (.int .i64 120)]) [] [] rfl trivial rfl hK
set_option maxHeartbeats 1000000 in
theorem asFlag1 (b : Bool) {K : V → Hp → Prop} (hK : K (.t [.a (.bool b), .a (.int .i64 0)]) []) : Go.Eng.Fn Tryd.prog ro 33 [.a (.str (bs (Va.flag b).bytes))] [] K := by
  have k := @kindAll ro (Va.flag b).bytes
  have g0 : byteAt (bs (Va.flag b).bytes) 1 = some (if b then 1 else 0) := byteAt_bs (i := 1) rfl
  have g1 := True.intro
  have kk : ∀ K : V → Hp → Prop, K (.a (.int .u8 1)) [] → Go.Eng.Fn Tryd.prog ro 24 [.a (.str (bs (Va.flag b).bytes))] [] K := fun K hK => k (fun v hv e => by rw [← Va.inj (v := .flag b) trivial hv e]; exact hK) (fun h => absurd ⟨.flag b, trivial, rfl⟩ h)
  clear k
  generalize bs (Va.flag b).bytes = s at *
  refine Fn.weak ?_
  refine Fn.of_code (gOf []) Tryd.func33 rfl (Nat.le_of_ble_eq_true rfl) ?_
  conv => whnf
  repeat' ((first | ((with_reducible refine y'r ?_ ?_); (· decide +kernel)) | ((with_reducible refine y'g ?_ ?_); (· exact ⟨_, rfl⟩)) | (with_reducible first | refine y'b ‹_› ?_ | refine y'n ‹_› ?_ | refine y'1 ‹_› ?_ | refine y'2 ‹_› ?_ | refine y'3 ?_ | refine y'4 ?_) | ((with_reducible refine y'n ?_ ?_); (· first | with_reducible assumption | exact decide_eq_true (by omega) | decide +kernel)) | (with_reducible first | refine y'n (y'7 ‹_› ‹_›) ?_ | refine y'v (y'8 ‹_› ‹_›) (fun s hs => ?_) | refine y'5 ‹_› ?_ | refine y'6 ‹_› ?_) | ((with_reducible apply y'o); (· first | exact g0 | exact g1)) | ((with_reducible refine y'p ?_ ?_); (· rfl)) | ((with_reducible refine y'q ?_ ?_); (· rfl)) | fail) <;> (conv => whnf))
  refine Fn.frame [] (by rfl) (by exact trivial) (by rfl) (kk _ ?_)
  cases b with
  | true =>
    conv => whnf
    repeat' ((first | ((with_reducible refine y'r ?_ ?_); (· decide +kernel)) | ((with_reducible refine y'g ?_ ?_); (· exact ⟨_, rfl⟩)) | (with_reducible first | refine y'b ‹_› ?_ | refine y'n ‹_› ?_ | refine y'1 ‹_› ?_ | refine y'2 ‹_› ?_ | refine y'3 ?_ | refine y'4 ?_) | ((with_reducible refine y'n ?_ ?_); (· first | with_reducible assumption | exact decide_eq_true (by omega) | decide +kernel)) | (with_reducible first | refine y'n (y'7 ‹_› ‹_›) ?_ | refine y'v (y'8 ‹_› ‹_›) (fun s hs => ?_) | refine y'5 ‹_› ?_ | refine y'6 ‹_› ?_) | ((with_reducible apply y'o); (· first | exact g0 | exact g1)) | ((with_reducible refine y'p ?_ ?_); (· rfl)) | ((with_reducible refine y'q ?_ ?_); (· rfl)) | fail) <;> (conv => whnf))
    exact keepOf (v₀ := .t [.a (.bool true), .a (.int .i64 0)]) [] [] rfl trivial rfl hK
  | false =>
    conv => whnf
    repeat' ((first | ((with_reducible refine y'r ?_ ?_); (· decide +kernel)) | ((with_reducible refine y'g ?_ ?_); (· exact ⟨_, rfl⟩)) | (with_reducible first | refine y'b ‹_› ?_ | refine y'n ‹_› ?_ | refine y'1 ‹_› ?_ | refine y'2 ‹_› ?_ | refine y'3 ?_ | refine y'4 ?_) | ((with_reducible refine y'n ?_ ?_); (· first | with_reducible assumption | exact decide_eq_true (by omega) | decide +kernel)) | (with_reducible first | refine y'n (y'7 ‹_› ‹_›) ?_ | refine y'v (y'8 ‹_› ‹_›) (fun s hs => ?_) | refine y'5 ‹_› ?_ | refine y'6 ‹_› ?_) | ((with_reducible apply y'o); (· first | exact g0 | exact g1)) | ((with_reducible refine y'p ?_ ?_); (· rfl)) | ((with_reducible refine y'q ?_ ?_); (· rfl)) | fail) <;> (conv => whnf))
    exact keepOf (v₀ := .t [.a (.bool false), .a (.int .i64 0)]) [] [] rfl trivial rfl hK
set_option maxHeartbeats 1000000 in
theorem asRunes1 (rl : List Nat) (hv : (Va.runes rl).ok) {K : V → Hp → Prop} (hK : ∀ rs X n cap mk, rs = i32s (rl ++ X) → n = rl.length → cap = n + X.length → K (.t [.a (.slc 0 0 n cap), .a (.int .i64 0)]) [.cells rs 21 mk]) :
    Go.Eng.Fn Tryd.prog ro 34 [.a (.str (bs (4 :: flat rl)))] [] K := by
  have k := @kindAll ro (4 :: flat rl)
  have hx := bs_tail 4 (flat rl)
  have hsz := bs_size (4 :: flat rl)
  rw [List.length_cons] at hsz
  have g0 := True.intro
  have g1 := True.intro
  have c0 : decide ((0 : Int) ≤ 1 ∧ (1 : Int) ≤ ((bs (4 :: flat rl)).size : Int)) = true := decide_eq_true (by omega)
  have kk : ∀ K : V → Hp → Prop, K (.a (.int .u8 4)) [] → Go.Eng.Fn Tryd.prog ro 24 [.a (.str (bs (4 :: flat rl)))] [] K := fun K hK => k (fun v hv' e => by rw [← Va.inj (v := .runes rl) hv hv' e]; exact hK) (fun h => absurd ⟨.runes rl, hv, rfl⟩ h)
  clear k
  have hr := runesL_flat hv.1
  generalize bs (4 :: flat rl) = s at *
  generalize bs (flat rl) = s2 at *
  refine Fn.weak ?_
  refine Fn.of_code (gOf []) Tryd.func34 rfl (Nat.le_of_ble_eq_true rfl) ?_
  conv => whnf
  repeat' ((first | ((with_reducible refine y'r ?_ ?_); (· decide +kernel)) | ((with_reducible refine y'g ?_ ?_); (· exact ⟨_, rfl⟩)) | (with_reducible first | refine y'b ‹_› ?_ | refine y'n ‹_› ?_ | refine y'1 ‹_› ?_ | refine y'2 ‹_› ?_ | refine y'3 ?_ | refine y'4 ?_) | ((with_reducible refine y'n ?_ ?_); (· first | with_reducible assumption | exact decide_eq_true (by omega) | decide +kernel)) | (with_reducible first | refine y'n (y'7 ‹_› ‹_›) ?_ | refine y'v (y'8 ‹_› ‹_›) (fun s hs => ?_) | refine y'5 ‹_› ?_ | refine y'6 ‹_› ?_) | ((with_reducible apply y'o); (· first | exact g0 | exact g1)) | ((with_reducible refine y'p ?_ ?_); (· rfl)) | ((with_reducible refine y'q ?_ ?_); (· rfl)) | fail) <;> (conv => whnf))
  refine Fn.frame [] (by rfl) (by exact trivial) (by rfl) (kk _ ?_)
  conv => whnf
  repeat' ((first | ((with_reducible refine y'r ?_ ?_); (· decide +kernel)) | ((with_reducible refine y'g ?_ ?_); (· exact ⟨_, rfl⟩)) | (with_reducible first | refine y'b ‹_› ?_ | refine y'n ‹_› ?_ | refine y'1 ‹_› ?_ | refine y'2 ‹_› ?_ | refine y'3 ?_ | refine y'4 ?_) | ((with_reducible refine y'n ?_ ?_); (· first | with_reducible assumption | exact decide_eq_true (by omega) | decide +kernel)) | (with_reducible first | refine y'n (y'7 ‹_› ‹_›) ?_ | refine y'v (y'8 ‹_› ‹_›) (fun s hs => ?_) | refine y'5 ‹_› ?_ | refine y'6 ‹_› ?_) | ((with_reducible apply y'o); (· first | exact g0 | exact g1)) | ((with_reducible refine y'p ?_ ?_); (· rfl)) | ((with_reducible refine y'q ?_ ?_); (· rfl)) | fail) <;> (conv => whnf))
  rw [hx, hr, i32s_eng]
  intro cap hcap
  obtain ⟨rs, hrs0⟩ : ∃ rs, rs = KD.i32s rl ++ List.replicate (cap - rl.length) (A.int .i32 0) := ⟨_, rfl⟩
  have hrs : rs = i32s (rl ++ List.replicate (cap - rl.length) 0) := by rw [hrs0]; unfold KD.i32s; simp
  have hp := i32s_pl hrs
  rw [← hrs0]
  clear hrs0
  conv => whnf
  repeat' ((first | ((with_reducible refine y'r ?_ ?_); (· decide +kernel)) | ((with_reducible refine y'g ?_ ?_); (· exact ⟨_, rfl⟩)) | (with_reducible first | refine y'b ‹_› ?_ | refine y'n ‹_› ?_ | refine y'1 ‹_› ?_ | refine y'2 ‹_› ?_ | refine y'3 ?_ | refine y'4 ?_) | ((with_reducible refine y'n ?_ ?_); (· first | with_reducible assumption | exact decide_eq_true (by omega) | decide +kernel)) | (with_reducible first | refine y'n (y'7 ‹_› ‹_›) ?_ | refine y'v (y'8 ‹_› ‹_›) (fun s hs => ?_) | refine y'5 ‹_› ?_ | refine y'6 ‹_› ?_) | ((with_reducible apply y'o); (· first | exact g0 | exact g1)) | ((with_reducible refine y'p ?_ ?_); (· rfl)) | ((with_reducible refine y'q ?_ ?_); (· rfl)) | fail) <;> (conv => whnf))
  exact keepOf (v₀ := .t [.a (.slc 0 0 rl.length cap), .a (.int .i64 0)]) [.cells rs 21 false] [0] rfl ⟨ren_pl hp _ _ _, trivial⟩ (by simp [nodupb, baseb, Ob.okb, frmOk, V.okb, E.okb, A.okb, hp.2]) (hK rs _ _ _ false hrs rfl (by rw [List.length_replicate]; omega))
set_option maxHeartbeats 1000000 in
theorem refTally0 (L : List UInt8) (hL : ¬ IsT L) {K : V → Hp → Prop} (hK : K (.t [.a (.int .i32 0), .a (.int .i64 120)]) []) :
    Go.Eng.Fn Tryd.prog ro 35 [.a (.str (bs L))] [] K := by
  have g0 := True.intro
  have g1 := True.intro
  refine Fn.weak ?_
  refine Fn.of_code (gOf []) Tryd.func35 rfl (Nat.le_of_ble_eq_true rfl) ?_
  have k := @apartAll ro L
  generalize bs L = s at k ⊢
  conv => whnf
  repeat' ((first | ((with_reducible refine y'r ?_ ?_); (· decide +kernel)) | ((with_reducible refine y'g ?_ ?_); (· exact ⟨_, rfl⟩)) | (with_reducible first | refine y'b ‹_› ?_ | refine y'n ‹_› ?_ | refine y'1 ‹_› ?_ | refine y'2 ‹_› ?_ | refine y'3 ?_ | refine y'4 ?_) | ((with_reducible refine y'n ?_ ?_); (· first | with_reducible assumption | exact decide_eq_true (by omega) | decide +kernel)) | (with_reducible first | refine y'n (y'7 ‹_› ‹_›) ?_ | refine y'v (y'8 ‹_› ‹_›) (fun s hs => ?_) | refine y'5 ‹_› ?_ | refine y'6 ‹_› ?_) | ((with_reducible apply y'o); (· first | exact g0 | exact g1)) | ((with_reducible refine y'p ?_ ?_); (· rfl)) | ((with_reducible refine y'q ?_ ?_); (· rfl)) | fail) <;> (conv => whnf))
  refine Fn.frame [] (by rfl) (by exact trivial) (by rfl) (k (fun _ => ?_) (fun v _ _ h3 fs rs Y X n1 c1 n c mk1 mk hfs _ hrs _ => ?_) (fun d hd e => absurd ⟨d, hd, e⟩ hL))
  ·
    conv => whnf
    repeat' ((first | ((with_reducible refine y'r ?_ ?_); (· decide +kernel)) | ((with_reducible refine y'g ?_ ?_); (· exact ⟨_, rfl⟩)) | (with_reducible first | refine y'b ‹_› ?_ | refine y'n ‹_› ?_ | refine y'1 ‹_› ?_ | refine y'2 ‹_› ?_ | refine y'3 ?_ | refine y'4 ?_) | ((with_reducible refine y'n ?_ ?_); (· first | with_reducible assumption | exact decide_eq_true (by omega) | decide +kernel)) | (with_reducible first | refine y'n (y'7 ‹_› ‹_›) ?_ | refine y'v (y'8 ‹_› ‹_›) (fun s hs => ?_) | refine y'5 ‹_› ?_ | refine y'6 ‹_› ?_) | ((with_reducible apply y'o); (· first | exact g0 | exact g1)) | ((with_reducible refine y'p ?_ ?_); (· rfl)) | ((with_reducible refine y'q ?_ ?_); (· rfl)) | fail) <;> (conv => whnf))
    exact keepOf (v₀ := .t [.a (.int .i32 0), .a (.int .i64 120)]) [] [] rfl trivial rfl hK
  · have hp := i32s_pl hrs
    have hfp := f64s_pl hfs
    have d3 : ((v.kind.toNat : Int) != 3) = true := by
      simp only [bne_iff_ne, ne_eq]
      intro e
      exact h3 (UInt8.toNat_inj.1 (show v.kind.toNat = 3 by omega))
    generalize (v.kind.toNat : Int) = z at *
    conv => whnf
    repeat' ((first | ((with_reducible refine y'r ?_ ?_); (· decide +kernel)) | ((with_reducible refine y'g ?_ ?_); (· exact ⟨_, rfl⟩)) | (with_reducible first | refine y'b ‹_› ?_ | refine y'n ‹_› ?_ | refine y'1 ‹_› ?_ | refine y'2 ‹_› ?_ | refine y'3 ?_ | refine y'4 ?_) | ((with_reducible refine y'n ?_ ?_); (· first | with_reducible assumption | exact decide_eq_true (by omega) | decide +kernel)) | (with_reducible first | refine y'n (y'7 ‹_› ‹_›) ?_ | refine y'v (y'8 ‹_› ‹_›) (fun s hs => ?_) | refine y'5 ‹_› ?_ | refine y'6 ‹_› ?_) | ((with_reducible apply y'o); (· first | exact g0 | exact g1)) | ((with_reducible refine y'p ?_ ?_); (· rfl)) | ((with_reducible refine y'q ?_ ?_); (· rfl)) | fail) <;> (conv => whnf))
    exact keepOf (v₀ := .t [.a (.int .i32 0), .a (.int .i64 120)]) [] [] rfl trivial rfl hK
theorem refTally1 (c : List Nat) (hc : Ct c) {K : V → Hp → Prop} (hK : K (.t [.a (.int .i32 (sumC c 6)), .a (.int .i64 0)]) []) :
    Go.Eng.Fn Tryd.prog ro 35 [.a (.str (bs (toldP c)))] [] K := by
  have hap : apC (encC c 6) = true := by rw [apC_tally, tallyP_enc hc]
  exact asTallyR (encC c 6) (by have := enc_le c; omega) (fun h => by rw [hap] at h; cases h) (fun _ => by rw [sumE_enc hc]; exact hK)
set_option maxHeartbeats 2000000 in
/-- sameRunes of a row with itself. -/
theorem sameR (L X Y : List Nat) (rs ss : List A) (n cap m cap2 : Nat) (mk mk2 : Bool) (hrs : rs = i32s (L ++ X)) (hss : ss = i32s (L ++ Y)) (hn : n = L.length) (hm : m = L.length) (hn9 : n ≤ 100000000) {K : V → Hp → Prop}
    (hK : K (.a (.bool true)) [.cells rs 21 mk, .cells ss 21 mk2]) :
    Go.Eng.Fn Tryd.prog ro 36 [.a (.slc 0 0 n cap), .a (.slc 1 0 m cap2)] [.cells rs 21 mk, .cells ss 21 mk2] K := by
  have hp := i32s_pl hrs
  have hq := i32s_pl hss
  obtain rfl : m = n := by omega
  have c0 : ((m : Int) != (m : Int)) = false := by simp
  have g0 := True.intro
  have g1 := True.intro
  refine Fn.weak ?_
  refine Fn.of 2 h36 rfl Tryd.func36 rfl (Nat.le_of_ble_eq_true rfl) ?_
  conv => whnf
  repeat' ((first | ((with_reducible refine y'r ?_ ?_); (· decide +kernel)) | ((with_reducible refine y'g ?_ ?_); (· exact ⟨_, rfl⟩)) | (with_reducible first | refine y'b ‹_› ?_ | refine y'n ‹_› ?_ | refine y'1 ‹_› ?_ | refine y'2 ‹_› ?_ | refine y'3 ?_ | refine y'4 ?_) | ((with_reducible refine y'n ?_ ?_); (· first | with_reducible assumption | exact decide_eq_true (by omega) | decide +kernel)) | (with_reducible first | refine y'n (y'7 ‹_› ‹_›) ?_ | refine y'v (y'8 ‹_› ‹_›) (fun s hs => ?_) | refine y'5 ‹_› ?_ | refine y'6 ‹_› ?_) | ((with_reducible apply y'o); (· first | exact g0 | exact g1)) | ((with_reducible refine y'p ?_ ?_); (· rfl)) | ((with_reducible refine y'q ?_ ?_); (· rfl)) | fail) <;> (conv => whnf))
  clear g0 g1
  refine loopx_of (fun k F H => ∃ i : Nat, i ≤ m ∧ k = m - i ∧ F = [(0, .a (.slc 0 0 m cap)), (1, .a (.slc 1 0 m cap2)), (5, .a (.int .i64 i))] ∧ H = [.cells rs 21 mk, .cells ss 21 mk2]) m ?_ ?_
  · exact Into.weak [0, 1] [(0, .a (.slc 0 0 m cap)), (1, .a (.slc 1 0 m cap2)), (5, .a (.int .i64 (0 : Nat)))] [.cells rs 21 mk, .cells ss 21 mk2] ⟨0, Nat.zero_le _, rfl, rfl, rfl⟩ ⟨rfl, rfl, rfl, trivial⟩ ⟨ren_pl hp _ _ _, ren_pl hq _ _ _, trivial⟩ (by simp [nodupb, baseb, Ob.okb, frmOk, V.okb, A.okb, hp.2, hq.2] <;> decide)
  · rintro k F H ⟨i, hi, rfl, rfl, rfl⟩
    have hw : IntKind.i64.wrap (↑i + 1) = ((i + 1 : Nat) : Int) := by rw [i64w (by omega) (by omega)]; rfl
    by_cases hin : i < m
    · have d1 : decide ((i : Int) < (m : Int)) = true := decide_eq_true (by omega)
      have d2 : decide (0 ≤ (i : Int) ∧ (i : Int) < (m : Int)) = true := decide_eq_true (by omega)
      obtain ⟨e, he⟩ : ∃ e, L[i]? = some e := ⟨_, List.getElem?_eq_getElem (by omega)⟩
      have g0 : rs[0 + (i : Int).toNat * Tryd.prog.types[21].size]? = some (.int .i32 (e : Int)) := by
        rw [Int.toNat_natCast, s21, Nat.zero_add, Nat.mul_one]
        exact i32s_get hrs (by rw [List.getElem?_append_left (by omega)]; exact he)
      have g1 : ss[0 + (i : Int).toNat * Tryd.prog.types[21].size]? = some (.int .i32 (e : Int)) := by
        rw [Int.toNat_natCast, s21, Nat.zero_add, Nat.mul_one]
        exact i32s_get hss (by rw [List.getElem?_append_left (by omega)]; exact he)
      have c1 : ((e : Int) != (e : Int)) = false := by simp
      conv => whnf
      repeat' ((first | ((with_reducible refine y'r ?_ ?_); (· decide +kernel)) | ((with_reducible refine y'g ?_ ?_); (· exact ⟨_, rfl⟩)) | (with_reducible first | refine y'b ‹_› ?_ | refine y'n ‹_› ?_ | refine y'1 ‹_› ?_ | refine y'2 ‹_› ?_ | refine y'3 ?_ | refine y'4 ?_) | ((with_reducible refine y'n ?_ ?_); (· first | with_reducible assumption | exact decide_eq_true (by omega) | decide +kernel)) | (with_reducible first | refine y'n (y'7 ‹_› ‹_›) ?_ | refine y'v (y'8 ‹_› ‹_›) (fun s hs => ?_) | refine y'5 ‹_› ?_ | refine y'6 ‹_› ?_) | ((with_reducible apply y'o); (· first | exact g0 | exact g1)) | ((with_reducible refine y'p ?_ ?_); (· rfl)) | ((with_reducible refine y'q ?_ ?_); (· rfl)) | fail) <;> (conv => whnf))
      exact ⟨m - (i + 1), by omega, Into.weak [0, 1] [(0, .a (.slc 0 0 m cap)), (1, .a (.slc 1 0 m cap2)), (5, .a (.int .i64 ((i + 1 : Nat) : Int)))] [.cells rs 21 mk, .cells ss 21 mk2] ⟨i + 1, by omega, rfl, rfl, rfl⟩ ⟨rfl, rfl, congrArg (fun z => some (V.a (.int .i64 z))) hw, trivial⟩ ⟨ren_pl hp _ _ _, ren_pl hq _ _ _, trivial⟩ (by simp [nodupb, baseb, Ob.okb, frmOk, V.okb, A.okb, hp.2, hq.2] <;> decide)⟩
    · have d1 : decide ((i : Int) < (m : Int)) = false := decide_eq_false (by omega)
      conv => whnf
      repeat' ((first | ((with_reducible refine y'r ?_ ?_); (· decide +kernel)) | ((with_reducible refine y'g ?_ ?_); (· exact ⟨_, rfl⟩)) | (with_reducible first | refine y'b ‹_› ?_ | refine y'n ‹_› ?_ | refine y'1 ‹_› ?_ | refine y'2 ‹_› ?_ | refine y'3 ?_ | refine y'4 ?_) | ((with_reducible refine y'n ?_ ?_); (· first | with_reducible assumption | exact decide_eq_true (by omega) | decide +kernel)) | (with_reducible first | refine y'n (y'7 ‹_› ‹_›) ?_ | refine y'v (y'8 ‹_› ‹_›) (fun s hs => ?_) | refine y'5 ‹_› ?_ | refine y'6 ‹_› ?_) | ((with_reducible apply y'o); (· first | exact g0 | exact g1)) | ((with_reducible refine y'p ?_ ?_); (· rfl)) | ((with_reducible refine y'q ?_ ?_); (· rfl)) | fail) <;> (conv => whnf))
      exact keepOf (v₀ := .a (.bool true)) [.cells rs 21 mk, .cells ss 21 mk2] [0, 1] rfl ⟨ren_pl hp _ _ _, ren_pl hq _ _ _, trivial⟩ (by simp [nodupb, baseb, Ob.okb, frmOk, V.okb, A.okb, hp.2, hq.2] <;> decide) hK
end
end Go.Proofs.YtimddbgnaeeggaaDoor.KD
