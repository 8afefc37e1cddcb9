import Derived.Test.YtglbldhineggaaaDB
import Derived.Test.YtglbldhineggaaaDT
namespace Go.Proofs.Ytglbldhineggaaa.DG
open Go.Eng
set_option maxRecDepth 100000
section
variable {ro : Addr → A → Prop}
theorem and31 : ∀ n : Nat, n < 32 → 0 < n → bitx .and .u64 (IntKind.u64.wrap (-(n : Int))) 31 = ((32 - n : Nat) : Int) := by decide +kernel
theorem sub64 : ∀ n : Nat, n < 32 → 0 < n → IntKind.u64.wrap (32 - ((32 - n : Nat) : Int)) = (n : Int) := by decide +kernel
theorem sub32 : ∀ n : Nat, n < 32 → 0 < n → IntKind.i64.wrap (32 - (n : Int)) = ((32 - n : Nat) : Int) := by decide +kernel
theorem rotr_or (a : UInt32) (n : Nat) : shl a (32 - n) ||| shr a n = rotr a n := by
  unfold rotr
  apply UInt32.toBitVec_inj.1
  apply BitVec.eq_of_getElem_eq
  intro i hi
  simp [Bool.or_comm]
set_option maxHeartbeats 400000 in
theorem rot46 (x : UInt32) (n : Nat) (k : Int) (hk : k = -(n : Int)) (h0 : 0 < n) (hn : n < 32) {K : V → Hp → Prop} (hK : ∀ r : Int, r = (rotr x n).toNat → K (.a (.int .u32 r)) []) :
    Go.Eng.Fn Try.prog ro 46 [.a (.int .u32 (x.toNat : Int)), .a (.int .i64 k)] [] K := by
  subst hk
  refine Go.Eng.Fn.weak ?_
  refine Go.Eng.Fn.of_code (gOf []) Try.func46 rfl (Nat.le_of_ble_eq_true rfl) ?_
  have e1 := and31 n hn h0
  have e2 := sub64 n hn h0
  conv => whnf
  rw [e1]
  repeat' (first
    | ((with_reducible refine regx_of ?_ ?_); (· decide +kernel); conv => whnf)
    | ((with_reducible refine growx_pre ?_ ?_); (· exact ⟨_, rfl⟩); conv => whnf)
    | ((with_reducible refine needm_of ?_ ?_); (· first | assumption | exact decide_eq_true (by omega) | exact mkOK_of (by decide) | decide +kernel | (refine decide_eq_true ?_; simp (disch := omega) only [i64w]; omega)); conv => whnf)
    | ((with_reducible refine condm_pos ?_ ?_); (· assumption); conv => whnf)
    | ((with_reducible refine condm_neg ?_ ?_); (· assumption); conv => whnf)
    | ((with_reducible refine forceL_fv (by assumption) ?_); conv => whnf)
    | ((with_reducible refine forceL_rfv (by assumption) ?_); conv => whnf)
    | ((with_reducible refine forceNm_of ?_); conv => whnf)
    | ((with_reducible refine needm_of (fv_lenL (by assumption) (by assumption)) ?_); conv => whnf)
    | ((with_reducible refine optm_var (fv_strL (by assumption) (by assumption)) (fun s hs => ?_)); conv => whnf)
    | ((with_reducible refine forceA_of ?_); conv => whnf)
    | fail)
  rw [e2]
  repeat' (first
    | ((with_reducible refine regx_of ?_ ?_); (· decide +kernel); conv => whnf)
    | ((with_reducible refine growx_pre ?_ ?_); (· exact ⟨_, rfl⟩); conv => whnf)
    | ((with_reducible refine needm_of ?_ ?_); (· first | assumption | exact decide_eq_true (by omega) | exact mkOK_of (by decide) | decide +kernel | (refine decide_eq_true ?_; simp (disch := omega) only [i64w]; omega)); conv => whnf)
    | ((with_reducible refine condm_pos ?_ ?_); (· assumption); conv => whnf)
    | ((with_reducible refine condm_neg ?_ ?_); (· assumption); conv => whnf)
    | ((with_reducible refine forceL_fv (by assumption) ?_); conv => whnf)
    | ((with_reducible refine forceL_rfv (by assumption) ?_); conv => whnf)
    | ((with_reducible refine forceNm_of ?_); conv => whnf)
    | ((with_reducible refine needm_of (fv_lenL (by assumption) (by assumption)) ?_); conv => whnf)
    | ((with_reducible refine optm_var (fv_strL (by assumption) (by assumption)) (fun s hs => ?_)); conv => whnf)
    | ((with_reducible refine forceA_of ?_); conv => whnf)
    | fail)
  rw [w_shl x (n := 32 - n) (m := 32 - n) (by simp [IntKind.bits] <;> omega) rfl, w_shr x (n := n) (by simp [IntKind.bits] <;> omega), w_or, rotr_or]
  refine ⟨_, _, [], ?_, ?_, ?_, hK _ rfl⟩
  · rfl
  · exact trivial
  · rfl
set_option maxHeartbeats 400000 in
theorem right44 (x : UInt32) (n : Nat) (k : Int) (hk : k = (n : Int)) (h0 : 0 < n) (hn : n < 32) {K : V → Hp → Prop} (hK : ∀ r : Int, r = (rotr x n).toNat → K (.a (.int .u32 r)) []) :
    Go.Eng.Fn Try.prog ro 44 [.a (.int .u32 (x.toNat : Int)), .a (.int .i64 k)] [] K := by
  subst hk
  refine Go.Eng.Fn.weak ?_
  refine Go.Eng.Fn.of_code h44 Try.func44 rfl (Nat.le_of_ble_eq_true rfl) ?_
  have e1 := sub32 n hn h0
  conv => whnf
  repeat' (first
    | ((with_reducible refine regx_of ?_ ?_); (· decide +kernel); conv => whnf)
    | ((with_reducible refine growx_pre ?_ ?_); (· exact ⟨_, rfl⟩); conv => whnf)
    | ((with_reducible refine needm_of ?_ ?_); (· first | assumption | exact decide_eq_true (by omega) | exact mkOK_of (by decide) | decide +kernel | (refine decide_eq_true ?_; simp (disch := omega) only [i64w]; omega)); conv => whnf)
    | ((with_reducible refine condm_pos ?_ ?_); (· assumption); conv => whnf)
    | ((with_reducible refine condm_neg ?_ ?_); (· assumption); conv => whnf)
    | ((with_reducible refine forceL_fv (by assumption) ?_); conv => whnf)
    | ((with_reducible refine forceL_rfv (by assumption) ?_); conv => whnf)
    | ((with_reducible refine forceNm_of ?_); conv => whnf)
    | ((with_reducible refine needm_of (fv_lenL (by assumption) (by assumption)) ?_); conv => whnf)
    | ((with_reducible refine optm_var (fv_strL (by assumption) (by assumption)) (fun s hs => ?_)); conv => whnf)
    | ((with_reducible refine forceA_of ?_); conv => whnf)
    | fail)
  rw [e1]
  repeat' (first
    | ((with_reducible refine regx_of ?_ ?_); (· decide +kernel); conv => whnf)
    | ((with_reducible refine growx_pre ?_ ?_); (· exact ⟨_, rfl⟩); conv => whnf)
    | ((with_reducible refine needm_of ?_ ?_); (· first | assumption | exact decide_eq_true (by omega) | exact mkOK_of (by decide) | decide +kernel | (refine decide_eq_true ?_; simp (disch := omega) only [i64w]; omega)); conv => whnf)
    | ((with_reducible refine condm_pos ?_ ?_); (· assumption); conv => whnf)
    | ((with_reducible refine condm_neg ?_ ?_); (· assumption); conv => whnf)
    | ((with_reducible refine forceL_fv (by assumption) ?_); conv => whnf)
    | ((with_reducible refine forceL_rfv (by assumption) ?_); conv => whnf)
    | ((with_reducible refine forceNm_of ?_); conv => whnf)
    | ((with_reducible refine needm_of (fv_lenL (by assumption) (by assumption)) ?_); conv => whnf)
    | ((with_reducible refine optm_var (fv_strL (by assumption) (by assumption)) (fun s hs => ?_)); conv => whnf)
    | ((with_reducible refine forceA_of ?_); conv => whnf)
    | fail)
  rw [w_shl x (n := 32 - n) (m := 32 - n) (by simp [IntKind.bits] <;> omega) rfl, w_shr x (n := n) (by simp [IntKind.bits] <;> omega), w_or]
  refine ⟨_, _, [], ?_, ?_, ?_, hK _ (by unfold rotr; rfl)⟩
  · rfl
  · exact trivial
  · rfl
/-- The words of the turns: one row for both. -/
@[irreducible] def kTab : List UInt32 := [0x428a2f98, 0x71374491, 0xb5c0fbcf, 0xe9b5dba5, 0x3956c25b, 0x59f111f1, 0x923f82a4, 0xab1c5ed5, 0xd807aa98, 0x12835b01, 0x243185be, 0x550c7dc3, 0x72be5d74, 0x80deb1fe, 0x9bdc06a7, 0xc19bf174, 0xe49b69c1, 0xefbe4786, 0x0fc19dc6, 0x240ca1cc, 0x2de92c6f, 0x4a7484aa, 0x5cb0a9dc, 0x76f988da, 0x983e5152, 0xa831c66d, 0xb00327c8, 0xbf597fc7, 0xc6e00bf3, 0xd5a79147, 0x06ca6351, 0x14292967, 0x27b70a85, 0x2e1b2138, 0x4d2c6dfc, 0x53380d13, 0x650a7354, 0x766a0abb, 0x81c2c92e, 0x92722c85, 0xa2bfe8a1, 0xa81a664b, 0xc24b8b70, 0xc76c51a3, 0xd192e819, 0xd6990624, 0xf40e3585, 0x106aa070, 0x19a4c116, 0x1e376c08, 0x2748774c, 0x34b0bcb5, 0x391c0cb3, 0x4ed8aa4a, 0x5b9cca4f, 0x682e6ff3, 0x748f82ee, 0x78a5636f, 0x84c87814, 0x8cc70208, 0x90befffa, 0xa4506ceb, 0xbef9a3f7, 0xc67178f2]
theorem kTab_length : kTab.length = 64 := by unfold kTab; rfl
set_option maxHeartbeats 400000 in
theorem cubes45 {K : V → Hp → Prop} (hK : ∀ ks, ks = u32s kTab → K (.g ks) []) : Go.Eng.Fn Try.prog ro 45 [] [] K := by
  refine Go.Eng.Fn.weak ?_
  refine Go.Eng.Fn.of_code (gOf []) Try.func45 rfl (Nat.le_of_ble_eq_true rfl) ?_
  conv => whnf
  refine keepOf (v₀ := .g (u32s kTab)) [] [] ?_ trivial ?_ (hK (u32s kTab) rfl)
  · unfold u32s kTab; rfl
  · unfold u32s kTab; rfl
set_option maxHeartbeats 400000 in
theorem cubes42 {K : V → Hp → Prop} (hK : ∀ ks, ks = u32s kTab → K (.g ks) []) : Go.Eng.Fn Try.prog ro 42 [] [] K := by
  refine Go.Eng.Fn.weak ?_
  refine Go.Eng.Fn.of_code (gOf []) Try.func42 rfl (Nat.le_of_ble_eq_true rfl) ?_
  conv => whnf
  refine keepOf (v₀ := .g (u32s kTab)) [] [] ?_ trivial ?_ (hK (u32s kTab) rfl)
  · unfold u32s kTab; rfl
  · unfold u32s kTab; rfl
/-! ### Words, plainly. -/
theorem ch_eq (e f g : UInt32) : (e &&& f) ||| (g &&& ~~~e) = (e &&& f) ^^^ (~~~e &&& g) := by
  apply UInt32.toBitVec_inj.1
  apply BitVec.eq_of_getElem_eq
  intro i hi
  simp
  cases e.toBitVec[i] <;> simp
theorem maj_eq (a b c : UInt32) : (a &&& b) ||| (a &&& c) ||| (b &&& c) = (a &&& b) ^^^ (a &&& c) ^^^ (b &&& c) := by
  apply UInt32.toBitVec_inj.1
  apply BitVec.eq_of_getElem_eq
  intro i hi
  simp
  cases a.toBitVec[i] <;> cases b.toBitVec[i] <;> cases c.toBitVec[i] <;> rfl
@[irreducible] def w8 (b : UInt8) : UInt32 := UInt32.ofNat b.toNat
theorem w8_toNat (b : UInt8) : (w8 b).toNat = b.toNat := by
  have h1 : b.toNat < 256 := b.toNat_lt
  simp only [w8, UInt32.toNat_ofNat']
  omega
theorem w_of8 (b : UInt8) : IntKind.u32.wrap (b.toNat : Int) = ((w8 b).toNat : Int) := by
  have h1 : b.toNat < 256 := b.toNat_lt
  rw [u32w, w8_toNat, Nat.mod_eq_of_lt (by omega)]
theorem shl_toNat (b : UInt8) (n : Nat) (h : n ≤ 24) : (shl (w8 b) n).toNat = b.toNat * 2 ^ n := by
  have h1 : b.toNat < 256 := b.toNat_lt
  have h2 : 2 ^ n ≤ 2 ^ 24 := Nat.pow_le_pow_right (by decide) h
  have h3 : b.toNat * 2 ^ n < 4294967296 := Nat.lt_of_lt_of_le (Nat.mul_lt_mul_of_lt_of_le h1 h2 (by simp)) (by decide)
  simp only [shl, UInt32.toNat_ofNat', w8_toNat]
  exact Nat.mod_eq_of_lt h3
theorem word_or (a b c d : UInt8) : shl (w8 a) 24 ||| shl (w8 b) 16 ||| shl (w8 c) 8 ||| w8 d = shl (w8 a) 24 + shl (w8 b) 16 + shl (w8 c) 8 + w8 d := by
  have ha : a.toNat < 256 := a.toNat_lt
  have hb : b.toNat < 256 := b.toNat_lt
  have hc : c.toNat < 256 := c.toNat_lt
  have hd : d.toNat < 256 := d.toNat_lt
  apply UInt32.toNat_inj.1
  simp only [UInt32.toNat_or, UInt32.toNat_add, shl_toNat _ _ (Nat.le_refl 24), shl_toNat _ 16 (by decide), shl_toNat _ 8 (by decide), w8_toNat]
  rw [Nat.mul_comm a.toNat, Nat.mul_comm b.toNat, Nat.mul_comm c.toNat]
  rw [← Nat.two_pow_add_eq_or_of_lt (i := 24) (b := 2 ^ 16 * b.toNat) (by omega)]
  rw [show 2 ^ 24 * a.toNat + 2 ^ 16 * b.toNat = 2 ^ 16 * (2 ^ 8 * a.toNat + b.toNat) by omega]
  rw [← Nat.two_pow_add_eq_or_of_lt (i := 16) (b := 2 ^ 8 * c.toNat) (by omega)]
  rw [show 2 ^ 16 * (2 ^ 8 * a.toNat + b.toNat) + 2 ^ 8 * c.toNat = 2 ^ 8 * (2 ^ 8 * (2 ^ 8 * a.toNat + b.toNat) + c.toNat) by omega]
  rw [← Nat.two_pow_add_eq_or_of_lt (i := 8) (b := d.toNat) (by omega)]
  omega
/-- the word of four bytes -/
@[irreducible] def word (a b c d : UInt8) : UInt32 := shl (w8 a) 24 + shl (w8 b) 16 + shl (w8 c) 8 + w8 d
@[irreducible] def wordAt (B : List UInt8) (i : Nat) : UInt32 := word (B.getD (4 * i) 0) (B.getD (4 * i + 1) 0) (B.getD (4 * i + 2) 0) (B.getD (4 * i + 3) 0)
@[irreducible] def lo0 (x : UInt32) : UInt32 := rotr x 7 ^^^ rotr x 18 ^^^ shr x 3
@[irreducible] def lo1 (x : UInt32) : UInt32 := rotr x 17 ^^^ rotr x 19 ^^^ shr x 10
@[irreducible] def up1 (x : UInt32) : UInt32 := rotr x 6 ^^^ rotr x 11 ^^^ rotr x 25
@[irreducible] def up0 (x : UInt32) : UInt32 := rotr x 2 ^^^ rotr x 13 ^^^ rotr x 22
/-- the words of a block -/
def wd (B : List UInt8) (n : Nat) : UInt32 := if n < 16 then wordAt B n else wd B (n - 16) + lo0 (wd B (n - 15)) + wd B (n - 7) + lo1 (wd B (n - 2))
termination_by n
decreasing_by all_goals omega
theorem wd_lt {B : List UInt8} {n : Nat} (h : n < 16) : wd B n = wordAt B n := by rw [wd, if_pos h]
theorem wd_ge {B : List UInt8} {n : Nat} (h : ¬ n < 16) : wd B n = wd B (n - 16) + lo0 (wd B (n - 15)) + wd B (n - 7) + lo1 (wd B (n - 2)) := by rw [wd, if_neg h]
structure St where
  a : UInt32
  b : UInt32
  c : UInt32
  d : UInt32
  e : UInt32
  f : UInt32
  g : UInt32
  h : UInt32
@[irreducible] def tOf (e f g h k w : UInt32) : UInt32 := h + up1 e + ((e &&& f) ^^^ (~~~e &&& g)) + k + w
@[irreducible] def uOf (a b c : UInt32) : UInt32 := up0 a + ((a &&& b) ^^^ (a &&& c) ^^^ (b &&& c))
def rnd (k w : UInt32) (s : St) : St := ⟨tOf s.e s.f s.g s.h k w + uOf s.a s.b s.c, s.a, s.b, s.c, s.d + tOf s.e s.f s.g s.h k w, s.e, s.f, s.g⟩
def roundsR (B : List UInt8) : Nat → St → St
  | 0, s => s
  | n + 1, s => rnd (kTab.getD n 0) (wd B n) (roundsR B n s)
@[irreducible] def rounds (B : List UInt8) (n : Nat) (s : St) : St := roundsR B n s
theorem rounds_0 (B : List UInt8) (s : St) : rounds B 0 s = s := by unfold rounds; rfl
theorem rounds_succ (B : List UInt8) (n : Nat) (s : St) : rounds B (n + 1) s = rnd (kTab.getD n 0) (wd B n) (rounds B n s) := by unfold rounds; rfl
def addS (s t : St) : St := ⟨s.a + t.a, s.b + t.b, s.c + t.c, s.d + t.d, s.e + t.e, s.f + t.f, s.g + t.g, s.h + t.h⟩
@[irreducible] def blockS (s : St) (B : List UInt8) : St := addS (rounds B 64 s) s
def St.row (s : St) : List UInt32 := [s.a, s.b, s.c, s.d, s.e, s.f, s.g, s.h]
theorem t_eq (e f g h k w : UInt32) : h + k + w + ((e &&& f) ||| (g &&& ~~~e)) + (rotr e 6 ^^^ rotr e 11 ^^^ rotr e 25) = tOf e f g h k w := by
  rw [ch_eq]
  unfold tOf up1
  ac_rfl
theorem u_eq (a b c : UInt32) : ((a &&& b) ||| (a &&& c) ||| (b &&& c)) + (rotr a 2 ^^^ rotr a 13 ^^^ rotr a 22) = uOf a b c := by
  rw [maj_eq]
  unfold uOf up0
  ac_rfl
end
end Go.Proofs.Ytglbldhineggaaa.DG
