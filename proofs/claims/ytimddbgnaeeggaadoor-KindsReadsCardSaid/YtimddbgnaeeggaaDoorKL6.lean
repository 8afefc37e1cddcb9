import Derived.Test.YtimddbgnaeeggaaDoorUG
namespace Go.Proofs.YtimddbgnaeeggaaDoor.KD
open Go.Eng
set_option maxRecDepth 100000
section
variable {ro : Addr → A → Prop}
theorem same1 (u : Nat) {K : V → Hp → Prop} (hK : K (.a (.bool true)) []) : Go.Eng.Fn Tryd.prog ro 20 [.a (.flt .f64 u), .a (.flt .f64 u)] [] K := same11 u u (by rw [sameB_self]; exact hK)
set_option maxHeartbeats 400000 in
theorem sameN {K : V → Hp → Prop} (hK : K (.a (.bool true)) []) : Go.Eng.Fn Tryd.prog ro 36 [.a .nils, .a .nils] [] K := by
  have g0 := True.intro
  have g1 := True.intro
  refine Fn.weak ?_
  refine Fn.of_code h36 Tryd.func36 rfl (Nat.le_of_ble_eq_true rfl) ?_
  conv => whnf
  repeat' ((first | ((with_reducible refine y'r ?_ ?_); (· decide +kernel)) | ((with_reducible refine y'g ?_ ?_); (· exact ⟨_, rfl⟩)) | (with_reducible first | refine y'b ‹_› ?_ | refine y'n ‹_› ?_ | refine y'1 ‹_› ?_ | refine y'2 ‹_› ?_ | refine y'3 ?_ | refine y'4 ?_) | ((with_reducible refine y'n ?_ ?_); (· first | with_reducible assumption | exact decide_eq_true (by omega) | decide +kernel)) | (with_reducible first | refine y'n (y'7 ‹_› ‹_›) ?_ | refine y'v (y'8 ‹_› ‹_›) (fun s hs => ?_) | refine y'5 ‹_› ?_ | refine y'6 ‹_› ?_) | ((with_reducible apply y'o); (· first | exact g0 | exact g1)) | ((with_reducible refine y'p ?_ ?_); (· rfl)) | ((with_reducible refine y'q ?_ ?_); (· rfl)) | fail) <;> (conv => whnf))
  refine loopx_iter 1 ?_
  conv => whnf
  repeat' ((first | ((with_reducible refine y'r ?_ ?_); (· decide +kernel)) | ((with_reducible refine y'g ?_ ?_); (· exact ⟨_, rfl⟩)) | (with_reducible first | refine y'b ‹_› ?_ | refine y'n ‹_› ?_ | refine y'1 ‹_› ?_ | refine y'2 ‹_› ?_ | refine y'3 ?_ | refine y'4 ?_) | ((with_reducible refine y'n ?_ ?_); (· first | with_reducible assumption | exact decide_eq_true (by omega) | decide +kernel)) | (with_reducible first | refine y'n (y'7 ‹_› ‹_›) ?_ | refine y'v (y'8 ‹_› ‹_›) (fun s hs => ?_) | refine y'5 ‹_› ?_ | refine y'6 ‹_› ?_) | ((with_reducible apply y'o); (· first | exact g0 | exact g1)) | ((with_reducible refine y'p ?_ ?_); (· rfl)) | ((with_reducible refine y'q ?_ ?_); (· rfl)) | fail) <;> (conv => whnf))
  exact keepOf (v₀ := .a (.bool true)) [] [] rfl trivial rfl hK
set_option maxHeartbeats 400000 in
theorem sameNS (rs : List A) (hp : Pl rs) (n cap : Nat) (hn : n = 0) (mk : Bool) {K : V → Hp → Prop} (hK : K (.a (.bool true)) [.cells rs 21 mk]) : Go.Eng.Fn Tryd.prog ro 36 [.a .nils, .a (.slc 0 0 n cap)] [.cells rs 21 mk] K := by
  have g0 := True.intro
  have g1 := True.intro
  have c0 : ((0 : Int) != (n : Int)) = false := by rw [hn]; rfl
  refine Fn.weak ?_
  refine Fn.of 1 h36 rfl Tryd.func36 rfl (Nat.le_of_ble_eq_true rfl) ?_
  conv => whnf
  repeat' ((first | ((with_reducible refine y'r ?_ ?_); (· decide +kernel)) | ((with_reducible refine y'g ?_ ?_); (· exact ⟨_, rfl⟩)) | (with_reducible first | refine y'b ‹_› ?_ | refine y'n ‹_› ?_ | refine y'1 ‹_› ?_ | refine y'2 ‹_› ?_ | refine y'3 ?_ | refine y'4 ?_) | ((with_reducible refine y'n ?_ ?_); (· first | with_reducible assumption | exact decide_eq_true (by omega) | decide +kernel)) | (with_reducible first | refine y'n (y'7 ‹_› ‹_›) ?_ | refine y'v (y'8 ‹_› ‹_›) (fun s hs => ?_) | refine y'5 ‹_› ?_ | refine y'6 ‹_› ?_) | ((with_reducible apply y'o); (· first | exact g0 | exact g1)) | ((with_reducible refine y'p ?_ ?_); (· rfl)) | ((with_reducible refine y'q ?_ ?_); (· rfl)) | fail) <;> (conv => whnf))
  refine loopx_iter 1 ?_
  conv => whnf
  repeat' ((first | ((with_reducible refine y'r ?_ ?_); (· decide +kernel)) | ((with_reducible refine y'g ?_ ?_); (· exact ⟨_, rfl⟩)) | (with_reducible first | refine y'b ‹_› ?_ | refine y'n ‹_› ?_ | refine y'1 ‹_› ?_ | refine y'2 ‹_› ?_ | refine y'3 ?_ | refine y'4 ?_) | ((with_reducible refine y'n ?_ ?_); (· first | with_reducible assumption | exact decide_eq_true (by omega) | decide +kernel)) | (with_reducible first | refine y'n (y'7 ‹_› ‹_›) ?_ | refine y'v (y'8 ‹_› ‹_›) (fun s hs => ?_) | refine y'5 ‹_› ?_ | refine y'6 ‹_› ?_) | ((with_reducible apply y'o); (· first | exact g0 | exact g1)) | ((with_reducible refine y'p ?_ ?_); (· rfl)) | ((with_reducible refine y'q ?_ ?_); (· rfl)) | fail) <;> (conv => whnf))
  exact keepOf (v₀ := .a (.bool true)) [.cells rs 21 mk] [0] rfl ⟨ren_pl hp _ _ _, trivial⟩ (by simp [nodupb, baseb, Ob.okb, frmOk, V.okb, A.okb, hp.2] <;> decide) hK
set_option maxHeartbeats 4000000 in
theorem reads7 (L : List UInt8) : Go.Eng.Fn Tryd.prog ro 7 [.a (.str (bs L))] [] (fun v _ => v = .a (.bool true)) := by
  have kA := @apartAll ro L
  have a1 := @asFlag0 ro L
  have a2 := @asReal0 ro L
  have a3 := @asCorner0 ro L
  have a4 := @asTally0 ro L
  have a5 := @asRunes0 ro L
  have a6 := @refTally0 ro L
  have z1 : ∀ v : Va, v.ok → L = v.bytes → kd L = v.kind.toNat := fun v hv e => kd_va hv e
  have g0 := True.intro
  have g1 := True.intro
  refine Fn.of_code h7 Tryd.func7 rfl (Nat.le_of_ble_eq_true rfl) ?_
  obtain ⟨s, hs⟩ : ∃ s, s = bs L := ⟨_, rfl⟩
  rw [← hs] at kA a1 a2 a3 a4 a5 a6 ⊢
  conv => whnf
  repeat' ((first | ((with_reducible refine y'r ?_ ?_); (· decide +kernel)) | ((with_reducible refine y'g ?_ ?_); (· exact ⟨_, rfl⟩)) | (with_reducible first | refine y'b ‹_› ?_ | refine y'n ‹_› ?_ | refine y'1 ‹_› ?_ | refine y'2 ‹_› ?_ | refine y'3 ?_ | refine y'4 ?_) | ((with_reducible refine y'n ?_ ?_); (· first | with_reducible assumption | exact decide_eq_true (by omega) | decide +kernel)) | (with_reducible first | refine y'n (y'7 ‹_› ‹_›) ?_ | refine y'v (y'8 ‹_› ‹_›) (fun s hs => ?_) | refine y'5 ‹_› ?_ | refine y'6 ‹_› ?_) | ((with_reducible apply y'o); (· first | exact g0 | exact g1)) | ((with_reducible refine y'p ?_ ?_); (· rfl)) | ((with_reducible refine y'q ?_ ?_); (· rfl)) | fail) <;> (conv => whnf))
  refine Fn.frame [] (by rfl) (by exact trivial) (by rfl) (kA (fun hno => ?_) (fun v hv hL h3 fs rs Y X n1 c1 n c mk1 mk hfs hn1 hrs hn => ?_) (fun d hd hL rs X n cap mk hrs hn hcap => ?_))
  · have hk := kd_no hno
    have k1 := fun K h => @a1 (by rw [hk]; decide) K h
    have k2 := fun K h => @a2 (by rw [hk]; decide) K h
    have k3 := fun K h => @a3 (by rw [hk]; decide) K h
    have k4 := fun K h => @a4 (by rw [hk]; decide) K h
    have k5 := fun K h => @a5 (by rw [hk]; decide) K h
    have k6 := fun K h => @a6 (notT hno) K h
    replace k1 := fun {K} => k1 K
    replace k2 := fun {K} => k2 K
    replace k3 := fun {K} => k3 K
    replace k4 := fun {K} => k4 K
    replace k5 := fun {K} => k5 K
    replace k6 := fun {K} => k6 K
    have kZ := @sameN ro
    conv => whnf
    repeat' ((first | ((with_reducible refine y'r ?_ ?_); (· decide +kernel)) | ((with_reducible refine y'g ?_ ?_); (· exact ⟨_, rfl⟩)) | (with_reducible first | refine y'b ‹_› ?_ | refine y'n ‹_› ?_ | refine y'1 ‹_› ?_ | refine y'2 ‹_› ?_ | refine y'3 ?_ | refine y'4 ?_) | ((with_reducible refine y'n ?_ ?_); (· first | with_reducible assumption | exact decide_eq_true (by omega) | decide +kernel)) | (with_reducible first | refine y'n (y'7 ‹_› ‹_›) ?_ | refine y'v (y'8 ‹_› ‹_›) (fun s hs => ?_) | refine y'5 ‹_› ?_ | refine y'6 ‹_› ?_) | ((with_reducible apply y'o); (· first | exact g0 | exact g1)) | ((with_reducible refine y'p ?_ ?_); (· rfl)) | ((with_reducible refine y'q ?_ ?_); (· rfl)) | (refine Fn.frame [] (by rfl) (by exact trivial) (by rfl) (k1 ?_)) | (refine Fn.frame [] (by rfl) (by exact trivial) (by rfl) (k2 ?_)) | (refine Fn.frame [] (by rfl) (by exact trivial) (by rfl) (k3 ?_)) | (refine Fn.frame [] (by rfl) (by exact trivial) (by rfl) (k4 ?_)) | (refine Fn.frame [] (by rfl) (by exact trivial) (by rfl) (k5 ?_)) | (refine Fn.frame [] (by rfl) (by exact trivial) (by rfl) (k6 ?_)) | (refine Fn.frame [] (by rfl) (by exact trivial) (by rfl) (same1 _ ?_)) | (refine Fn.frame [] (by rfl) (by exact trivial) (by rfl) (alive25 ?_)) | (refine Fn.frame [] (by rfl) (by exact trivial) (by rfl) (kZ ?_)) | (refine Fn.frame [1] (by rfl) (by exact ⟨ren_pl hp _ _ _, trivial⟩) (by simp [nodupb, V.okb, A.okb, Ob.okb, hp.2] <;> decide) (kZ ?_)) | fail) <;> (conv => whnf))
  · have hp := i32s_pl hrs
    have hfp := f64s_pl hfs
    have hk := kd_va hv hL
    have hT : ¬ IsT L := fun ⟨c, hc, e⟩ => h3 (by rw [Va.inj hv (w := .tally c) hc (hL.symm.trans e)]; rfl)
    have k6 := fun {K} h => @a6 hT K h
    have k4 := fun {K} h => @a4 (by rw [hk]; intro e; exact h3 (UInt8.toNat_inj.1 e)) K h
    clear a6 a4 kA
    cases v with
    | flag b =>
      have hk1 : kd L = 1 := hk
      have k1 := @asFlag1 ro b
      rw [← hL, ← hs] at k1
      have k2 := fun {K} h => @a2 (by rw [hk1]; decide) K h
      have k3 := fun {K} h => @a3 (by rw [hk1]; decide) K h
      have k5 := fun {K} h => @a5 (by rw [hk1]; decide) K h
      have kZ := @sameNS ro rs hp n c hn mk
      clear a1 a2 a3 a5
      have e1 : (b == (Va.flag b).on) = true := by simp [Va.on]
      conv => whnf
      repeat' ((first | ((with_reducible refine y'r ?_ ?_); (· decide +kernel)) | ((with_reducible refine y'g ?_ ?_); (· exact ⟨_, rfl⟩)) | (with_reducible first | refine y'b ‹_› ?_ | refine y'n ‹_› ?_ | refine y'1 ‹_› ?_ | refine y'2 ‹_› ?_ | refine y'3 ?_ | refine y'4 ?_) | ((with_reducible refine y'n ?_ ?_); (· first | with_reducible assumption | exact decide_eq_true (by omega) | decide +kernel)) | (with_reducible first | refine y'n (y'7 ‹_› ‹_›) ?_ | refine y'v (y'8 ‹_› ‹_›) (fun s hs => ?_) | refine y'5 ‹_› ?_ | refine y'6 ‹_› ?_) | ((with_reducible apply y'o); (· first | exact g0 | exact g1)) | ((with_reducible refine y'p ?_ ?_); (· rfl)) | ((with_reducible refine y'q ?_ ?_); (· rfl)) | (refine Fn.frame [] (by rfl) (by exact trivial) (by rfl) (k1 ?_)) | (refine Fn.frame [] (by rfl) (by exact trivial) (by rfl) (k2 ?_)) | (refine Fn.frame [] (by rfl) (by exact trivial) (by rfl) (k3 ?_)) | (refine Fn.frame [] (by rfl) (by exact trivial) (by rfl) (k4 ?_)) | (refine Fn.frame [] (by rfl) (by exact trivial) (by rfl) (k5 ?_)) | (refine Fn.frame [] (by rfl) (by exact trivial) (by rfl) (k6 ?_)) | (refine Fn.frame [] (by rfl) (by exact trivial) (by rfl) (same1 _ ?_)) | (refine Fn.frame [] (by rfl) (by exact trivial) (by rfl) (alive25 ?_)) | (refine Fn.frame [] (by rfl) (by exact trivial) (by rfl) (kZ ?_)) | (refine Fn.frame [1] (by rfl) (by exact ⟨ren_pl hp _ _ _, trivial⟩) (by simp [nodupb, V.okb, A.okb, Ob.okb, hp.2] <;> decide) (kZ ?_)) | fail) <;> (conv => whnf))
    | real u =>
      have hk1 : kd L = 2 := hk
      have k2 := @asreal ro u hv.1 hv.2
      rw [show (2 : UInt8) :: be 8 u = L from hL.symm, ← hs] at k2
      have k1 := fun {K} h => @a1 (by rw [hk1]; decide) K h
      have k3 := fun {K} h => @a3 (by rw [hk1]; decide) K h
      have k5 := fun {K} h => @a5 (by rw [hk1]; decide) K h
      have kZ := @sameNS ro rs hp n c hn mk
      clear a1 a2 a3 a5 g0
      have d0 : decide ((0 : Int) ≤ 0 ∧ (0 : Int) < (n1 : Int)) = true := by rw [hn1]; rfl
      have g0 : fs[0]? = some (.flt .f64 u) := f64s_get hfs rfl
      conv => whnf
      repeat' ((first | ((with_reducible refine y'r ?_ ?_); (· decide +kernel)) | ((with_reducible refine y'g ?_ ?_); (· exact ⟨_, rfl⟩)) | (with_reducible first | refine y'b ‹_› ?_ | refine y'n ‹_› ?_ | refine y'1 ‹_› ?_ | refine y'2 ‹_› ?_ | refine y'3 ?_ | refine y'4 ?_) | ((with_reducible refine y'n ?_ ?_); (· first | with_reducible assumption | exact decide_eq_true (by omega) | decide +kernel)) | (with_reducible first | refine y'n (y'7 ‹_› ‹_›) ?_ | refine y'v (y'8 ‹_› ‹_›) (fun s hs => ?_) | refine y'5 ‹_› ?_ | refine y'6 ‹_› ?_) | ((with_reducible apply y'o); (· first | exact g0 | exact g1)) | ((with_reducible refine y'p ?_ ?_); (· rfl)) | ((with_reducible refine y'q ?_ ?_); (· rfl)) | (refine Fn.frame [] (by rfl) (by exact trivial) (by rfl) (k1 ?_)) | (refine Fn.frame [] (by rfl) (by exact trivial) (by rfl) (k2 ?_)) | (refine Fn.frame [] (by rfl) (by exact trivial) (by rfl) (k3 ?_)) | (refine Fn.frame [] (by rfl) (by exact trivial) (by rfl) (k4 ?_)) | (refine Fn.frame [] (by rfl) (by exact trivial) (by rfl) (k5 ?_)) | (refine Fn.frame [] (by rfl) (by exact trivial) (by rfl) (k6 ?_)) | (refine Fn.frame [] (by rfl) (by exact trivial) (by rfl) (same1 _ ?_)) | (refine Fn.frame [] (by rfl) (by exact trivial) (by rfl) (alive25 ?_)) | (refine Fn.frame [] (by rfl) (by exact trivial) (by rfl) (kZ ?_)) | (refine Fn.frame [1] (by rfl) (by exact ⟨ren_pl hp _ _ _, trivial⟩) (by simp [nodupb, V.okb, A.okb, Ob.okb, hp.2] <;> decide) (kZ ?_)) | fail) <;> (conv => whnf))
    | tally d => exact absurd rfl h3
    | runes rl =>
      have hk1 : kd L = 4 := hk
      have k5 := @asRunes1 ro rl hv
      rw [show (4 : UInt8) :: flat rl = L from hL.symm, ← hs] at k5
      have k1 := fun {K} h => @a1 (by rw [hk1]; decide) K h
      have k2 := fun {K} h => @a2 (by rw [hk1]; decide) K h
      have k3 := fun {K} h => @a3 (by rw [hk1]; decide) K h
      clear a1 a2 a3 a5
      have hfew := flat_few rl
      have hfl := hv.2.2
      conv => whnf
      repeat' ((first | ((with_reducible refine y'r ?_ ?_); (· decide +kernel)) | ((with_reducible refine y'g ?_ ?_); (· exact ⟨_, rfl⟩)) | (with_reducible first | refine y'b ‹_› ?_ | refine y'n ‹_› ?_ | refine y'1 ‹_› ?_ | refine y'2 ‹_› ?_ | refine y'3 ?_ | refine y'4 ?_) | ((with_reducible refine y'n ?_ ?_); (· first | with_reducible assumption | exact decide_eq_true (by omega) | decide +kernel)) | (with_reducible first | refine y'n (y'7 ‹_› ‹_›) ?_ | refine y'v (y'8 ‹_› ‹_›) (fun s hs => ?_) | refine y'5 ‹_› ?_ | refine y'6 ‹_› ?_) | ((with_reducible apply y'o); (· first | exact g0 | exact g1)) | ((with_reducible refine y'p ?_ ?_); (· rfl)) | ((with_reducible refine y'q ?_ ?_); (· rfl)) | (refine Fn.frame [] (by rfl) (by exact trivial) (by rfl) (k1 ?_)) | (refine Fn.frame [] (by rfl) (by exact trivial) (by rfl) (k2 ?_)) | (refine Fn.frame [] (by rfl) (by exact trivial) (by rfl) (k3 ?_)) | (refine Fn.frame [] (by rfl) (by exact trivial) (by rfl) (k4 ?_)) | (refine Fn.frame [] (by rfl) (by exact trivial) (by rfl) (k5 ?_)) | (refine Fn.frame [] (by rfl) (by exact trivial) (by rfl) (k6 ?_)) | (refine Fn.frame [] (by rfl) (by exact trivial) (by rfl) (same1 _ ?_)) | (refine Fn.frame [] (by rfl) (by exact trivial) (by rfl) (alive25 ?_)) | (refine Fn.frame [] (by rfl) (by exact trivial) (by rfl) (kZ ?_)) | (refine Fn.frame [1] (by rfl) (by exact ⟨ren_pl hp _ _ _, trivial⟩) (by simp [nodupb, V.okb, A.okb, Ob.okb, hp.2] <;> decide) (kZ ?_)) | fail) <;> (conv => whnf))
      intro rs2 X2 m cap2 mk2 hrs2 hm hcap2
      have hp2 := i32s_pl hrs2
      have kY := @sameR ro rl X2 X rs2 rs m cap2 n c mk2 mk hrs2 hrs hm hn (by omega)
      clear k5
      conv => whnf
      repeat' ((first | ((with_reducible refine y'r ?_ ?_); (· decide +kernel)) | ((with_reducible refine y'g ?_ ?_); (· exact ⟨_, rfl⟩)) | (with_reducible first | refine y'b ‹_› ?_ | refine y'n ‹_› ?_ | refine y'1 ‹_› ?_ | refine y'2 ‹_› ?_ | refine y'3 ?_ | refine y'4 ?_) | ((with_reducible refine y'n ?_ ?_); (· first | with_reducible assumption | exact decide_eq_true (by omega) | decide +kernel)) | (with_reducible first | refine y'n (y'7 ‹_› ‹_›) ?_ | refine y'v (y'8 ‹_› ‹_›) (fun s hs => ?_) | refine y'5 ‹_› ?_ | refine y'6 ‹_› ?_) | ((with_reducible apply y'o); (· first | exact g0 | exact g1)) | ((with_reducible refine y'p ?_ ?_); (· rfl)) | ((with_reducible refine y'q ?_ ?_); (· rfl)) | (refine Fn.frame [] (by rfl) (by exact trivial) (by rfl) (k1 ?_)) | (refine Fn.frame [] (by rfl) (by exact trivial) (by rfl) (k2 ?_)) | (refine Fn.frame [] (by rfl) (by exact trivial) (by rfl) (k3 ?_)) | (refine Fn.frame [] (by rfl) (by exact trivial) (by rfl) (k4 ?_)) | (refine Fn.frame [] (by rfl) (by exact trivial) (by rfl) (k6 ?_)) | (refine Fn.frame [] (by rfl) (by exact trivial) (by rfl) (same1 _ ?_)) | (refine Fn.frame [] (by rfl) (by exact trivial) (by rfl) (alive25 ?_)) | (refine Fn.frame [3, 1] (by rfl) (by exact ⟨ren_pl hp2 _ _ _, ren_pl hp _ _ _, trivial⟩) (by simp [nodupb, V.okb, A.okb, Ob.okb, hp.2, hp2.2] <;> decide) (kY ?_)) | fail) <;> (conv => whnf))
    | corner u w =>
      have hk1 : kd L = 5 := hk
      have k3 := @ascorner ro u w hv.1.1 hv.1.2 hv.2.1 hv.2.2
      rw [show (5 : UInt8) :: (be 8 u ++ be 8 w) = L from hL.symm, ← hs] at k3
      have k1 := fun {K} h => @a1 (by rw [hk1]; decide) K h
      have k2 := fun {K} h => @a2 (by rw [hk1]; decide) K h
      have k5 := fun {K} h => @a5 (by rw [hk1]; decide) K h
      have kZ := @sameNS ro rs hp n c hn mk
      clear a1 a2 a3 a5 g0 g1
      have d0 : decide ((0 : Int) ≤ 0 ∧ (0 : Int) < (n1 : Int)) = true := by rw [hn1]; rfl
      have d1 : decide ((0 : Int) ≤ 1 ∧ (1 : Int) < (n1 : Int)) = true := by rw [hn1]; rfl
      have g0 : fs[0]? = some (.flt .f64 u) := f64s_get hfs rfl
      have g1 : fs[1]? = some (.flt .f64 w) := f64s_get hfs rfl
      conv => whnf
      repeat' ((first | ((with_reducible refine y'r ?_ ?_); (· decide +kernel)) | ((with_reducible refine y'g ?_ ?_); (· exact ⟨_, rfl⟩)) | (with_reducible first | refine y'b ‹_› ?_ | refine y'n ‹_› ?_ | refine y'1 ‹_› ?_ | refine y'2 ‹_› ?_ | refine y'3 ?_ | refine y'4 ?_) | ((with_reducible refine y'n ?_ ?_); (· first | with_reducible assumption | exact decide_eq_true (by omega) | decide +kernel)) | (with_reducible first | refine y'n (y'7 ‹_› ‹_›) ?_ | refine y'v (y'8 ‹_› ‹_›) (fun s hs => ?_) | refine y'5 ‹_› ?_ | refine y'6 ‹_› ?_) | ((with_reducible apply y'o); (· first | exact g0 | exact g1)) | ((with_reducible refine y'p ?_ ?_); (· rfl)) | ((with_reducible refine y'q ?_ ?_); (· rfl)) | (refine Fn.frame [] (by rfl) (by exact trivial) (by rfl) (k1 ?_)) | (refine Fn.frame [] (by rfl) (by exact trivial) (by rfl) (k2 ?_)) | (refine Fn.frame [] (by rfl) (by exact trivial) (by rfl) (k3 ?_)) | (refine Fn.frame [] (by rfl) (by exact trivial) (by rfl) (k4 ?_)) | (refine Fn.frame [] (by rfl) (by exact trivial) (by rfl) (k5 ?_)) | (refine Fn.frame [] (by rfl) (by exact trivial) (by rfl) (k6 ?_)) | (refine Fn.frame [] (by rfl) (by exact trivial) (by rfl) (same1 _ ?_)) | (refine Fn.frame [] (by rfl) (by exact trivial) (by rfl) (alive25 ?_)) | (refine Fn.frame [] (by rfl) (by exact trivial) (by rfl) (kZ ?_)) | (refine Fn.frame [1] (by rfl) (by exact ⟨ren_pl hp _ _ _, trivial⟩) (by simp [nodupb, V.okb, A.okb, Ob.okb, hp.2] <;> decide) (kZ ?_)) | fail) <;> (conv => whnf))
  · have hp := cts_pl hrs
    have hk1 : kd L = 3 := kd_va (v := .tally d) hd hL
    have k4 := @asTallyT ro d hd
    have k6 := @refTally1 ro d hd
    rw [show toldP d = L from hL.symm, ← hs] at k4 k6
    have k1 := fun {K} h => @a1 (by rw [hk1]; decide) K h
    have k2 := fun {K} h => @a2 (by rw [hk1]; decide) K h
    have k3 := fun {K} h => @a3 (by rw [hk1]; decide) K h
    have k5 := fun {K} h => @a5 (by rw [hk1]; decide) K h
    have kZ := @sameN ro
    clear a1 a2 a3 a4 a5 a6 kA
    have e1 : (sumC d 6 == sumC d 6) = true := by simp
    generalize sumC d 6 = sm at *
    conv => whnf
    repeat' ((first | ((with_reducible refine y'r ?_ ?_); (· decide +kernel)) | ((with_reducible refine y'g ?_ ?_); (· exact ⟨_, rfl⟩)) | (with_reducible first | refine y'b ‹_› ?_ | refine y'n ‹_› ?_ | refine y'1 ‹_› ?_ | refine y'2 ‹_› ?_ | refine y'3 ?_ | refine y'4 ?_) | ((with_reducible refine y'n ?_ ?_); (· first | with_reducible assumption | exact decide_eq_true (by omega) | decide +kernel)) | (with_reducible first | refine y'n (y'7 ‹_› ‹_›) ?_ | refine y'v (y'8 ‹_› ‹_›) (fun s hs => ?_) | refine y'5 ‹_› ?_ | refine y'6 ‹_› ?_) | ((with_reducible apply y'o); (· first | exact g0 | exact g1)) | ((with_reducible refine y'p ?_ ?_); (· rfl)) | ((with_reducible refine y'q ?_ ?_); (· rfl)) | (refine Fn.frame [] (by rfl) (by exact trivial) (by rfl) (k1 ?_)) | (refine Fn.frame [] (by rfl) (by exact trivial) (by rfl) (k2 ?_)) | (refine Fn.frame [] (by rfl) (by exact trivial) (by rfl) (k3 ?_)) | (refine Fn.frame [] (by rfl) (by exact trivial) (by rfl) (k4 ?_)) | (refine Fn.frame [] (by rfl) (by exact trivial) (by rfl) (k5 ?_)) | (refine Fn.frame [] (by rfl) (by exact trivial) (by rfl) (k6 ?_)) | (refine Fn.frame [] (by rfl) (by exact trivial) (by rfl) (same1 _ ?_)) | (refine Fn.frame [] (by rfl) (by exact trivial) (by rfl) (alive25 ?_)) | (refine Fn.frame [] (by rfl) (by exact trivial) (by rfl) (kZ ?_)) | (refine Fn.frame [1] (by rfl) (by exact ⟨ren_pl hp _ _ _, trivial⟩) (by simp [nodupb, V.okb, A.okb, Ob.okb, hp.2] <;> decide) (kZ ?_)) | fail) <;> (conv => whnf))
end
theorem topReads (W : World) (s : ByteArray) (_ : s.size ≤ 140737488351232) :
    Go.Eng.Fn Tryd.prog (roOf W) 7 [.a (.str s)] [] (fun v _ => v = .a (.bool true)) := by
  rw [bs_eq s]
  exact reads7 _
end Go.Proofs.YtimddbgnaeeggaaDoor.KD
