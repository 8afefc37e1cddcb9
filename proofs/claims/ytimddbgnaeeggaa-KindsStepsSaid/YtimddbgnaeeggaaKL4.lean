import Derived.Test.YtimddbgnaeeggaaRO
import Derived.Test.YtimddbgnaeeggaaEngI
namespace Go.Proofs.Ytimddbgnaeeggaa.KD
open Go.Eng
set_option maxRecDepth 100000
/-- A step of a tally: bytes and error. -/
def stV (c : List Nat) (r : Nat) (b : Int) : List UInt8 × Int :=
  if r < 1 ∨ 5 < r then ([], 1)
  else if 65535 < b.natAbs + c.getD (r * 2 + (if b < 0 then 1 else 0)) 0 then ([], 101)
  else (toldP (c.set (r * 2 + (if b < 0 then 1 else 0)) (b.natAbs + c.getD (r * 2 + (if b < 0 then 1 else 0)) 0)), 0)
theorem stV_ok {c : List Nat} (h : Ct c) (r : Nat) (b : Int) : ((stV c r b).2 ≠ 0 ∧ (stV c r b).1 = []) ∨ ((stV c r b).2 = 0 ∧ ∃ d, Ct d ∧ (stV c r b).1 = toldP d) := by
  unfold stV
  by_cases h1 : r < 1 ∨ 5 < r
  · rw [if_pos h1]
    exact .inl ⟨by show (1 : Int) ≠ 0; decide, rfl⟩
  · rw [if_neg h1]
    obtain ⟨w, hw⟩ : ∃ w : Nat, w = if b < 0 then 1 else 0 := ⟨_, rfl⟩
    by_cases h2 : 65535 < b.natAbs + c.getD (r * 2 + w) 0
    · rw [← hw, if_pos h2]
      exact .inl ⟨by show (101 : Int) ≠ 0; decide, rfl⟩
    · rw [← hw, if_neg h2]
      exact .inr ⟨rfl, _, h.set (by omega) (by omega), rfl⟩
theorem emp_bs : ByteArray.empty = bs [] := rfl
section
variable {ro : Addr → A → Prop}
theorem stepA (L : List UInt8) (c : List Nat) (hc : Ct c) (hL : L = toldP c) (r : Nat) (hr : r < 256) (b : Int) (hb : -32768 ≤ b ∧ b ≤ 32767) {K : V → Hp → Prop}
    (hK : ∀ p, p = stV c r b → K (.t [.a (.str (bs p.1)), .a (.int .i64 p.2)]) []) :
    Go.Eng.Fn Try.prog ro 13 [.a (.str (bs L)), .a (.int .u8 r), .a (.int .i16 b)] [] K := by
  subst hL
  have hk := hK _ rfl
  unfold stV at hk
  refine step1 (encC c 6) (by have := enc_le c; omega) c (tallyP_enc hc) r hr b hb (fun h => ?_) (fun u h1 h2 hu h => ?_) (fun u h1 h2 hu h => ?_)
  · rw [if_pos h] at hk; exact hk
  · rw [if_neg (by omega), List.getD_eq_getElem?_getD, hu, Option.getD_some, if_pos h] at hk; exact hk
  · rw [if_neg (by omega), List.getD_eq_getElem?_getD, hu, Option.getD_some, if_neg (by omega)] at hk; exact hk
theorem stepB (L : List UInt8) (c : List Nat) (hc : Ct c) (hL : L = toldP c) (r : Nat) (hr : r < 256) (b : Int) (hb : -32768 ≤ b ∧ b ≤ 32767) {K : V → Hp → Prop}
    (hK : ∀ p, p = stV c r b → K (.t [.a (.str (bs p.1)), .a (.int .i64 p.2)]) []) :
    Go.Eng.Fn Try.prog ro 14 [.a (.str (bs L)), .a (.int .u8 r), .a (.int .i16 b)] [] K := by
  subst hL
  have hk := hK _ rfl
  unfold stV at hk
  have hap : apC (encC c 6) = true := by rw [apC_tally, tallyP_enc hc]
  have hu : ∀ r : Nat, 1 ≤ r → r ≤ 5 → ∃ u, c[r * 2 + (if b < 0 then 1 else 0)]? = some u := fun r h1 h2 => ⟨_, List.getElem?_eq_getElem (by have := hc.len; split <;> omega)⟩
  refine stepR (encC c 6) (by have := enc_le c; omega) r hr b hb (fun h => by rw [hap] at h; cases h) (fun _ h => ?_) (fun _ h1 h2 h => ?_) (fun _ h1 h2 h => ?_)
  · rw [if_pos h] at hk; exact hk
  · obtain ⟨u, hu⟩ := hu r h1 h2
    rw [if_neg (by omega), List.getD_eq_getElem?_getD, hu, Option.getD_some, if_pos ((step_enc hc ⟨h1, h2⟩ hu).1.1 h)] at hk; exact hk
  · obtain ⟨u, hu⟩ := hu r h1 h2
    rw [if_neg (by omega), List.getD_eq_getElem?_getD, hu, Option.getD_some, if_neg (fun q => h ((step_enc hc ⟨h1, h2⟩ hu).1.2 q))] at hk
    rw [(step_enc hc ⟨h1, h2⟩ hu).2]; exact hk
theorem asTallyA (L : List UInt8) (c : List Nat) (hc : Ct c) (hL : L = toldP c) {K : V → Hp → Prop} (hK : K (.t [.a (.int .i32 (sumC c 6)), .a (.int .i64 0)]) []) :
    Go.Eng.Fn Try.prog ro 15 [.a (.str (bs L))] [] K := by
  subst hL
  exact asTally1 (encC c 6) (by have := enc_le c; omega) c (tallyP_enc hc) hK
theorem asTallyB (L : List UInt8) (c : List Nat) (hc : Ct c) (hL : L = toldP c) {K : V → Hp → Prop} (hK : K (.t [.a (.int .i32 (sumC c 6)), .a (.int .i64 0)]) []) :
    Go.Eng.Fn Try.prog ro 16 [.a (.str (bs L))] [] K := by
  subst hL
  have hap : apC (encC c 6) = true := by rw [apC_tally, tallyP_enc hc]
  exact asTallyR (encC c 6) (by have := enc_le c; omega) (fun h => by rw [hap] at h; cases h) (fun _ => by rw [sumE_enc hc]; exact hK)
def KCo : List Sc := [.int .u8, .int .i16]
/-- What steps and tallies of a text are, by either. -/
inductive Known (L : List UInt8) : Prop where
  | tally (c : List Nat) (hc : Ct c) (hL : L = toldP c)
  | none (h : ¬ IsT L)
theorem known (L : List UInt8) : Known L := (Classical.em (IsT L)).elim (fun ⟨c, hc, hL⟩ => .tally c hc hL) .none
set_option maxHeartbeats 4000000 in
theorem topSteps (W : World) (s : ByteArray) (hs : s.size ≤ 140737488351232) (y : A) (len cap : Nat) (G : Nat → List A) (hG : IsSl W 2 KCo y len cap G) :
    Go.Eng.Fn Try.prog (roOf W) 4 [.a (.str s), .a y] [] (fun v _ => v = .a (.bool true)) := by
  obtain ⟨L, hL⟩ : ∃ L, s = bs L := ⟨_, bs_eq s⟩
  refine Go.Eng.Fn.of_code (cutAt [17] h4) Try.func4 rfl (Nat.le_of_ble_eq_true rfl) ?_
  conv => whnf
  repeat' ((first | ((with_reducible refine regx_of ?_ ?_); (· decide +kernel)) | ((with_reducible refine growx_pre ?_ ?_); (· exact ⟨_, rfl⟩)) | (with_reducible first | refine condm_b ‹_› ?_ | refine needm_of ‹_› ?_ | refine forceL_fv ‹_› ?_ | refine forceL_rfv ‹_› ?_ | refine forceNm_of ?_ | refine forceA_of ?_) | ((with_reducible refine needm_of ?_ ?_); (· first | assumption | exact decide_eq_true (by omega) | exact mkOK_of (by decide) | decide +kernel | (refine decide_eq_true ?_; simp (disch := omega) only [i64w]; omega))) | ((with_reducible refine condm_b ?_ ?_); (· assumption)) | (with_reducible first | refine needm_of (fv_lenL ‹_› ‹_›) ?_ | refine optm_var (fv_strL ‹_› ‹_›) (fun s hs => ?_)) | ((with_reducible apply optm_of); (· first | exact g0 | exact g1 | exact g2)) | ((with_reducible refine condm_pos ?_ ?_); (· rfl)) | ((with_reducible refine condm_neg ?_ ?_); (· rfl)) | fail) <;> (conv => whnf))
  subst hL
  refine loopx_gen (fun F H => F = [] ∧ H = []) (.exit 0) (fun F H hI => ?_) (fun Q' hQ' => ?_)
  · conv => whnf
    refine ⟨hI.mono ?_⟩
    clear hI F H
    rintro F H ⟨rfl, rfl⟩
    conv => whnf
    repeat' ((first | ((with_reducible refine regx_of ?_ ?_); (· decide +kernel)) | ((with_reducible refine growx_pre ?_ ?_); (· exact ⟨_, rfl⟩)) | (with_reducible first | refine condm_b ‹_› ?_ | refine needm_of ‹_› ?_ | refine forceL_fv ‹_› ?_ | refine forceL_rfv ‹_› ?_ | refine forceNm_of ?_ | refine forceA_of ?_) | ((with_reducible refine needm_of ?_ ?_); (· first | assumption | exact decide_eq_true (by omega) | exact mkOK_of (by decide) | decide +kernel | (refine decide_eq_true ?_; simp (disch := omega) only [i64w]; omega))) | ((with_reducible refine condm_b ?_ ?_); (· assumption)) | (with_reducible first | refine needm_of (fv_lenL ‹_› ‹_›) ?_ | refine optm_var (fv_strL ‹_› ‹_›) (fun s hs => ?_)) | ((with_reducible apply optm_of); (· first | exact g0 | exact g1 | exact g2)) | ((with_reducible refine condm_pos ?_ ?_); (· rfl)) | ((with_reducible refine condm_neg ?_ ?_); (· rfl)) | fail) <;> (conv => whnf))
    refine Go.Eng.Fn.frame [] (by rfl) (by exact trivial) (by rfl) (tally17 ?_)
    conv => whnf
    repeat' ((first | ((with_reducible refine regx_of ?_ ?_); (· decide +kernel)) | ((with_reducible refine growx_pre ?_ ?_); (· exact ⟨_, rfl⟩)) | (with_reducible first | refine condm_b ‹_› ?_ | refine needm_of ‹_› ?_ | refine forceL_fv ‹_› ?_ | refine forceL_rfv ‹_› ?_ | refine forceNm_of ?_ | refine forceA_of ?_) | ((with_reducible refine needm_of ?_ ?_); (· first | assumption | exact decide_eq_true (by omega) | exact mkOK_of (by decide) | decide +kernel | (refine decide_eq_true ?_; simp (disch := omega) only [i64w]; omega))) | ((with_reducible refine condm_b ?_ ?_); (· assumption)) | (with_reducible first | refine needm_of (fv_lenL ‹_› ‹_›) ?_ | refine optm_var (fv_strL ‹_› ‹_›) (fun s hs => ?_)) | ((with_reducible apply optm_of); (· first | exact g0 | exact g1 | exact g2)) | ((with_reducible refine condm_pos ?_ ?_); (· rfl)) | ((with_reducible refine condm_neg ?_ ?_); (· rfl)) | fail) <;> (conv => whnf))
    refine Go.Eng.Fn.frame [] (by rfl) (by exact trivial) (by rfl) (stepA [3] zeros Ct.zeros told_zeros.symm 1 (by decide) (-32768) (by decide) (fun p hp => ?_))
    have hp2 : p = ([3, 1, 0, 0, 128, 0], 0) := by
      rw [hp]
      unfold stV
      rw [if_neg (by decide), if_neg (by decide)]
      simp [toldP, zeros, encC, ent, be2_eq]
    rw [hp2]
    conv => whnf
    repeat' ((first | ((with_reducible refine regx_of ?_ ?_); (· decide +kernel)) | ((with_reducible refine growx_pre ?_ ?_); (· exact ⟨_, rfl⟩)) | (with_reducible first | refine condm_b ‹_› ?_ | refine needm_of ‹_› ?_ | refine forceL_fv ‹_› ?_ | refine forceL_rfv ‹_› ?_ | refine forceNm_of ?_ | refine forceA_of ?_) | ((with_reducible refine needm_of ?_ ?_); (· first | assumption | exact decide_eq_true (by omega) | exact mkOK_of (by decide) | decide +kernel | (refine decide_eq_true ?_; simp (disch := omega) only [i64w]; omega))) | ((with_reducible refine condm_b ?_ ?_); (· assumption)) | (with_reducible first | refine needm_of (fv_lenL ‹_› ‹_›) ?_ | refine optm_var (fv_strL ‹_› ‹_›) (fun s hs => ?_)) | ((with_reducible apply optm_of); (· first | exact g0 | exact g1 | exact g2)) | ((with_reducible refine condm_pos ?_ ?_); (· rfl)) | ((with_reducible refine condm_neg ?_ ?_); (· rfl)) | fail) <;> (conv => whnf))
    refine Go.Eng.Fn.frame [] (by rfl) (by exact trivial) (by rfl) (tally17 ?_)
    conv => whnf
    repeat' ((first | ((with_reducible refine regx_of ?_ ?_); (· decide +kernel)) | ((with_reducible refine growx_pre ?_ ?_); (· exact ⟨_, rfl⟩)) | (with_reducible first | refine condm_b ‹_› ?_ | refine needm_of ‹_› ?_ | refine forceL_fv ‹_› ?_ | refine forceL_rfv ‹_› ?_ | refine forceNm_of ?_ | refine forceA_of ?_) | ((with_reducible refine needm_of ?_ ?_); (· first | assumption | exact decide_eq_true (by omega) | exact mkOK_of (by decide) | decide +kernel | (refine decide_eq_true ?_; simp (disch := omega) only [i64w]; omega))) | ((with_reducible refine condm_b ?_ ?_); (· assumption)) | (with_reducible first | refine needm_of (fv_lenL ‹_› ‹_›) ?_ | refine optm_var (fv_strL ‹_› ‹_›) (fun s hs => ?_)) | ((with_reducible apply optm_of); (· first | exact g0 | exact g1 | exact g2)) | ((with_reducible refine condm_pos ?_ ?_); (· rfl)) | ((with_reducible refine condm_neg ?_ ?_); (· rfl)) | fail) <;> (conv => whnf))
    rfl
  · rcases id hG with ⟨rfl, rfl, _⟩ | ⟨p, rfl, hlc, hcm, _⟩
    · refine loopx_iter 1 ?_
      conv => whnf
      repeat' ((first | ((with_reducible refine regx_of ?_ ?_); (· decide +kernel)) | ((with_reducible refine growx_pre ?_ ?_); (· exact ⟨_, rfl⟩)) | (with_reducible first | refine condm_b ‹_› ?_ | refine needm_of ‹_› ?_ | refine forceL_fv ‹_› ?_ | refine forceL_rfv ‹_› ?_ | refine forceNm_of ?_ | refine forceA_of ?_) | ((with_reducible refine needm_of ?_ ?_); (· first | assumption | exact decide_eq_true (by omega) | exact mkOK_of (by decide) | decide +kernel | (refine decide_eq_true ?_; simp (disch := omega) only [i64w]; omega))) | ((with_reducible refine condm_b ?_ ?_); (· assumption)) | (with_reducible first | refine needm_of (fv_lenL ‹_› ‹_›) ?_ | refine optm_var (fv_strL ‹_› ‹_›) (fun s hs => ?_)) | ((with_reducible apply optm_of); (· first | exact g0 | exact g1 | exact g2)) | ((with_reducible refine condm_pos ?_ ?_); (· rfl)) | ((with_reducible refine condm_neg ?_ ?_); (· rfl)) | fail) <;> (conv => whnf))
      exact hQ' _ _ (Into.weak [] [] [] ⟨rfl, rfl⟩ trivial trivial rfl)
    · refine loopx_of (fun m F H => ∃ (i : Nat) (L : List UInt8) (s : ByteArray), i ≤ len ∧ m = len - i ∧ s = bs L ∧ F = [(1, .a (.rslc p len cap)), (5, .a (.str s)), (6, .a (.str s)), (7, .a (.int .i64 i))] ∧ H = []) len ?_ ?_
      · exact Into.weak [] [(1, .a (.rslc p len cap)), (5, .a (.str (bs L))), (6, .a (.str (bs L))), (7, .a (.int .i64 (0 : Nat)))] [] ⟨0, L, _, Nat.zero_le _, rfl, rfl, rfl, rfl⟩ ⟨rfl, rfl, rfl, rfl, trivial⟩ trivial rfl
      · clear L hs
        rintro m F H ⟨i, L, s, hi, rfl, hsL, rfl, rfl⟩
        by_cases hil : i < len
        · have d1 : decide ((i : Int) < (len : Int)) = true := decide_eq_true (by omega)
          have d2 : decide (0 ≤ (i : Int) ∧ (i : Int) < (len : Int)) = true := decide_eq_true (by omega)
          obtain ⟨hf, hro⟩ := hG.get hil
          unfold KCo at hf
          obtain ⟨rep, r0, e0, b0, f0⟩ := Fits.int hf
          obtain ⟨b, r1, rfl, b1, f1⟩ := Fits.int f0
          obtain rfl := Fits.nil f1
          rw [e0] at hro
          have hw : IntKind.i64.wrap (↑i + 1) = ((i + 1 : Nat) : Int) := by rw [i64w (by omega) (by have : maxLen ≤ 9223372036854775807 := (by decide); omega)]; rfl
          have b0' : 0 ≤ rep ∧ rep ≤ 255 := b0
          have hbb : -32768 ≤ b ∧ b ≤ 32767 := b1
          obtain ⟨r, rfl⟩ : ∃ r : Nat, rep = r := ⟨rep.toNat, by omega⟩
          have ld : ∀ j y, ([.int .u8 (r : Int), .int .i16 b] : List A)[j]? = some y → roOf W ((p.add (i * 2)).add j) y := fun j y h => by rw [addr_add_add]; exact hro j y h
          have c8 : ∀ x : ByteArray, (!(x.data.toList == x.data.toList)) = false := fun x => by simp
          have c9 : ∀ e : Int, (e != e) = false := fun e => by simp
          rcases known L with ⟨c, hc, hLc⟩ | hno
          · have kA := @stepA (roOf W) L c hc hLc r (by omega) b hbb
            have kB := @stepB (roOf W) L c hc hLc r (by omega) b hbb
            have kC := @asTallyA (roOf W) L c hc hLc
            have kD := @asTallyB (roOf W) L c hc hLc
            rw [← hsL] at kA kB kC kD
            obtain ⟨⟨q, e⟩, hqe⟩ : ∃ p, p = stV c r b := ⟨_, rfl⟩
            have hok := stV_ok hc r b
            rw [← hqe] at hok
            obtain ⟨x, hx⟩ : ∃ x, x = bs q := ⟨_, rfl⟩
            have kA' := fun K h => @kA K (fun p hp => by rw [← hqe] at hp; subst hp; exact h)
            have kB' := fun K h => @kB K (fun p hp => by rw [← hqe] at hp; subst hp; exact h)
            simp only [← hx] at kA' kB'
            clear kA kB
            have c8x := c8 x
            have c9e := c9 e
            rcases hok with ⟨h1, h2⟩ | ⟨h1, d, hd, h2⟩
            · have c7 : (e == 0) = false := by simpa using h1
              have c9s := c9 (sumC c 6)
              generalize sumC c 6 = sm at *
              conv => whnf
              repeat' ((first | ((with_reducible refine regx_of ?_ ?_); (· decide +kernel)) | ((with_reducible refine growx_pre ?_ ?_); (· exact ⟨_, rfl⟩)) | (with_reducible first | refine condm_b ‹_› ?_ | refine needm_of ‹_› ?_ | refine forceL_fv ‹_› ?_ | refine forceL_rfv ‹_› ?_ | refine forceNm_of ?_ | refine forceA_of ?_) | ((with_reducible refine needm_of ?_ ?_); (· first | assumption | exact decide_eq_true (by omega) | exact mkOK_of (by decide) | decide +kernel | (refine decide_eq_true ?_; simp (disch := omega) only [i64w]; omega))) | ((with_reducible refine condm_b ?_ ?_); (· assumption)) | (with_reducible first | refine needm_of (fv_lenL ‹_› ‹_›) ?_ | refine optm_var (fv_strL ‹_› ‹_›) (fun s hs => ?_)) | ((with_reducible apply optm_of); (· first | exact g0 | exact g1 | exact g2)) | ((with_reducible refine condm_pos ?_ ?_); (· rfl)) | ((with_reducible refine condm_neg ?_ ?_); (· rfl)) | (refine ⟨_, ld 0 _ rfl, ?_⟩) | (refine ⟨_, ld 1 _ rfl, ?_⟩) | (refine Go.Eng.Fn.frame [] (by rfl) (by exact trivial) (by rfl) (kA' _ ?_)) | (refine Go.Eng.Fn.frame [] (by rfl) (by exact trivial) (by rfl) (kB' _ ?_)) | (refine Go.Eng.Fn.frame [] (by rfl) (by exact trivial) (by rfl) (kC ?_)) | (refine Go.Eng.Fn.frame [] (by rfl) (by exact trivial) (by rfl) (kD ?_)) | fail) <;> (conv => whnf))
              exact ⟨len - (i + 1), by omega, Into.weak [] [(1, .a (.rslc p len cap)), (5, .a (.str s)), (6, .a (.str s)), (7, .a (.int .i64 ((i + 1 : Nat) : Int)))] [] ⟨i + 1, L, s, by omega, rfl, hsL, rfl, rfl⟩ ⟨rfl, rfl, rfl, congrArg (fun z => some (V.a (.int .i64 z))) hw, trivial⟩ trivial rfl⟩
            · have c7 : (e == 0) = true := by simpa using h1
              clear kC kD
              have kC := @asTallyA (roOf W) q d hd h2
              have kD := @asTallyB (roOf W) q d hd h2
              rw [← hx] at kC kD
              have c9s := c9 (sumC d 6)
              generalize sumC d 6 = sm at *
              conv => whnf
              repeat' ((first | ((with_reducible refine regx_of ?_ ?_); (· decide +kernel)) | ((with_reducible refine growx_pre ?_ ?_); (· exact ⟨_, rfl⟩)) | (with_reducible first | refine condm_b ‹_› ?_ | refine needm_of ‹_› ?_ | refine forceL_fv ‹_› ?_ | refine forceL_rfv ‹_› ?_ | refine forceNm_of ?_ | refine forceA_of ?_) | ((with_reducible refine needm_of ?_ ?_); (· first | assumption | exact decide_eq_true (by omega) | exact mkOK_of (by decide) | decide +kernel | (refine decide_eq_true ?_; simp (disch := omega) only [i64w]; omega))) | ((with_reducible refine condm_b ?_ ?_); (· assumption)) | (with_reducible first | refine needm_of (fv_lenL ‹_› ‹_›) ?_ | refine optm_var (fv_strL ‹_› ‹_›) (fun s hs => ?_)) | ((with_reducible apply optm_of); (· first | exact g0 | exact g1 | exact g2)) | ((with_reducible refine condm_pos ?_ ?_); (· rfl)) | ((with_reducible refine condm_neg ?_ ?_); (· rfl)) | (refine ⟨_, ld 0 _ rfl, ?_⟩) | (refine ⟨_, ld 1 _ rfl, ?_⟩) | (refine Go.Eng.Fn.frame [] (by rfl) (by exact trivial) (by rfl) (kA' _ ?_)) | (refine Go.Eng.Fn.frame [] (by rfl) (by exact trivial) (by rfl) (kB' _ ?_)) | (refine Go.Eng.Fn.frame [] (by rfl) (by exact trivial) (by rfl) (kC ?_)) | (refine Go.Eng.Fn.frame [] (by rfl) (by exact trivial) (by rfl) (kD ?_)) | fail) <;> (conv => whnf))
              exact ⟨len - (i + 1), by omega, Into.weak [] [(1, .a (.rslc p len cap)), (5, .a (.str x)), (6, .a (.str x)), (7, .a (.int .i64 ((i + 1 : Nat) : Int)))] [] ⟨i + 1, q, x, by omega, rfl, hx, rfl, rfl⟩ ⟨rfl, rfl, rfl, congrArg (fun z => some (V.a (.int .i64 z))) hw, trivial⟩ trivial rfl⟩
          · have kA' := fun K h => @stepO (roOf W) L hno r b K h
            have kB' := fun K h => @stepRO (roOf W) L hno r b K h
            have kC := @asTallyO (roOf W) L hno
            have kD := @asTallyRO (roOf W) L hno
            rw [← hsL] at kC kD
            simp only [← hsL] at kA' kB'
            conv => whnf
            repeat' ((first | ((with_reducible refine regx_of ?_ ?_); (· decide +kernel)) | ((with_reducible refine growx_pre ?_ ?_); (· exact ⟨_, rfl⟩)) | (with_reducible first | refine condm_b ‹_› ?_ | refine needm_of ‹_› ?_ | refine forceL_fv ‹_› ?_ | refine forceL_rfv ‹_› ?_ | refine forceNm_of ?_ | refine forceA_of ?_) | ((with_reducible refine needm_of ?_ ?_); (· first | assumption | exact decide_eq_true (by omega) | exact mkOK_of (by decide) | decide +kernel | (refine decide_eq_true ?_; simp (disch := omega) only [i64w]; omega))) | ((with_reducible refine condm_b ?_ ?_); (· assumption)) | (with_reducible first | refine needm_of (fv_lenL ‹_› ‹_›) ?_ | refine optm_var (fv_strL ‹_› ‹_›) (fun s hs => ?_)) | ((with_reducible apply optm_of); (· first | exact g0 | exact g1 | exact g2)) | ((with_reducible refine condm_pos ?_ ?_); (· rfl)) | ((with_reducible refine condm_neg ?_ ?_); (· rfl)) | (refine ⟨_, ld 0 _ rfl, ?_⟩) | (refine ⟨_, ld 1 _ rfl, ?_⟩) | (refine Go.Eng.Fn.frame [] (by rfl) (by exact trivial) (by rfl) (kA' _ ?_)) | (refine Go.Eng.Fn.frame [] (by rfl) (by exact trivial) (by rfl) (kB' _ ?_)) | (refine Go.Eng.Fn.frame [] (by rfl) (by exact trivial) (by rfl) (kC ?_)) | (refine Go.Eng.Fn.frame [] (by rfl) (by exact trivial) (by rfl) (kD ?_)) | fail) <;> (conv => whnf))
            exact ⟨len - (i + 1), by omega, Into.weak [] [(1, .a (.rslc p len cap)), (5, .a (.str s)), (6, .a (.str s)), (7, .a (.int .i64 ((i + 1 : Nat) : Int)))] [] ⟨i + 1, L, s, by omega, rfl, hsL, rfl, rfl⟩ ⟨rfl, rfl, rfl, congrArg (fun z => some (V.a (.int .i64 z))) hw, trivial⟩ trivial rfl⟩
        · have d1 : decide ((i : Int) < (len : Int)) = false := decide_eq_false (by omega)
          conv => whnf
          repeat' ((first | ((with_reducible refine regx_of ?_ ?_); (· decide +kernel)) | ((with_reducible refine growx_pre ?_ ?_); (· exact ⟨_, rfl⟩)) | (with_reducible first | refine condm_b ‹_› ?_ | refine needm_of ‹_› ?_ | refine forceL_fv ‹_› ?_ | refine forceL_rfv ‹_› ?_ | refine forceNm_of ?_ | refine forceA_of ?_) | ((with_reducible refine needm_of ?_ ?_); (· first | assumption | exact decide_eq_true (by omega) | exact mkOK_of (by decide) | decide +kernel | (refine decide_eq_true ?_; simp (disch := omega) only [i64w]; omega))) | ((with_reducible refine condm_b ?_ ?_); (· assumption)) | (with_reducible first | refine needm_of (fv_lenL ‹_› ‹_›) ?_ | refine optm_var (fv_strL ‹_› ‹_›) (fun s hs => ?_)) | ((with_reducible apply optm_of); (· first | exact g0 | exact g1 | exact g2)) | ((with_reducible refine condm_pos ?_ ?_); (· rfl)) | ((with_reducible refine condm_neg ?_ ?_); (· rfl)) | fail) <;> (conv => whnf))
          exact hQ' _ _ (Into.weak [] [] [] ⟨rfl, rfl⟩ trivial trivial rfl)
end
end Go.Proofs.Ytimddbgnaeeggaa.KD
