import Derived.Test.YtimddbgnaeeggaaDoorKU
import Derived.Test.YtimddbgnaeeggaaDoorKT
import Derived.Test.YtimddbgnaeeggaaDoorKV
import Derived.Lib.LaidU8T
namespace Go.Proofs.YtimddbgnaeeggaaDoor.KD
open Go.Eng
set_option maxRecDepth 100000
/-- The two tables of unicode/utf8. -/
structure Tabs (ro : Addr → A → Prop) : Prop where
  first : ∀ c, c < 256 → ro ⟨1, c, none⟩ (.int .u8 (Go.Lib.firstT c))
  lo : ∀ i, i < 16 → ro ⟨2, 2 * i, none⟩ (.int .u8 (Go.Lib.accLo i))
  hi : ∀ i, i < 16 → ro ⟨2, 2 * i + 1, none⟩ (.int .u8 (Go.Lib.accHi i))
theorem or32 {a b : Nat} (ha : a < 2147483648) (hb : b < 2147483648) : bitx .or .i32 (a : Int) (b : Int) = ((a ||| b : Nat) : Int) := by
  have h : a ||| b < 2147483648 := Nat.or_lt_two_pow (n := 31) ha hb
  show IntKind.i32.wrap ((BitVec.ofInt 32 (a : Int) ||| BitVec.ofInt 32 (b : Int)).toNat : Int) = _
  rw [BitVec.ofInt_natCast, BitVec.ofInt_natCast, ← BitVec.ofNat_or, BitVec.toNat_ofNat, Nat.mod_eq_of_lt (by omega)]
  simp only [IntKind.wrap, IntKind.signed, IntKind.bits]
  simp
  omega
theorem and8 {a b : Nat} (ha : a < 256) (_ : b < 256) : bitx .and .u8 (a : Int) (b : Int) = ((a &&& b : Nat) : Int) := by
  have h : a &&& b < 256 := Nat.lt_of_le_of_lt Nat.and_le_left ha
  show IntKind.u8.wrap ((BitVec.ofInt 8 (a : Int) &&& BitVec.ofInt 8 (b : Int)).toNat : Int) = _
  rw [BitVec.ofInt_natCast, BitVec.ofInt_natCast, ← BitVec.ofNat_and, BitVec.toNat_ofNat, Nat.mod_eq_of_lt (by omega)]
  simp only [IntKind.wrap, IntKind.signed, IntKind.bits]
  simp
  omega
theorem or_add {p q : Nat} (k : Nat) (h : q < 2 ^ k) : (p * 2 ^ k) ||| q = p * 2 ^ k + q := by
  rw [← Nat.shiftLeft_eq, Nat.shiftLeft_add_eq_or_of_lt h]
theorem and_m (a k : Nat) : a &&& (2 ^ k - 1) = a % 2 ^ k := Nat.and_two_pow_sub_one_eq_mod a k
/-- The class of a head byte. -/
def Cls (b0 b1 n : Nat) : Prop := ∃ x q : Nat, Go.Lib.firstT b0 = x ∧ x < 240 ∧ x % 8 = n ∧ x / 16 = q ∧ q < 16 ∧ Go.Lib.accLo q ≤ b1 ∧ b1 ≤ Go.Lib.accHi q
theorem cls_of {b0 b1 x : Nat} (n q : Nat) (h : Go.Lib.firstT b0 = x) (h1 : x < 240) (h2 : x % 8 = n) (h3 : x / 16 = q) (h4 : q < 16) (h5 : Go.Lib.accLo q ≤ b1) (h6 : b1 ≤ Go.Lib.accHi q) : Cls b0 b1 n := ⟨x, q, h, h1, h2, h3, h4, h5, h6⟩
theorem cls2 {b0 b1 : Nat} (h : b0 / 32 = 6) (h1 : b1 / 64 = 2) (h2 : 128 ≤ b0 % 32 * 64 + b1 % 64) : Cls b0 b1 2 := by
  refine cls_of (x := 2) 2 0 ?_ (by decide) rfl rfl (by decide) (by show 128 ≤ b1; omega) (by show b1 ≤ 191; omega)
  unfold Go.Lib.firstT
  rw [if_neg (by omega), if_neg (by omega), if_pos (by omega)]
theorem cls3 {b0 b1 b2 : Nat} (h : b0 / 16 = 14) (h1 : b1 / 64 = 2) (h2 : 2048 ≤ b0 % 16 * 4096 + b1 % 64 * 64 + b2 % 64) (h3 : vr (b0 % 16 * 4096 + b1 % 64 * 64 + b2 % 64)) : Cls b0 b1 3 := by
  unfold vr at h3
  by_cases e0 : b0 = 224
  · subst e0
    exact cls_of (x := 19) 3 1 rfl (by decide) rfl rfl (by decide) (by show 160 ≤ b1; omega) (by show b1 ≤ 191; omega)
  by_cases e1 : b0 = 237
  · subst e1
    exact cls_of (x := 35) 3 2 rfl (by decide) rfl rfl (by decide) (by show 128 ≤ b1; omega) (by show b1 ≤ 159; omega)
  refine cls_of (x := 3) 3 0 ?_ (by decide) rfl rfl (by decide) (by show 128 ≤ b1; omega) (by show b1 ≤ 191; omega)
  unfold Go.Lib.firstT
  by_cases e2 : b0 < 237
  · rw [if_neg (by omega), if_neg (by omega), if_neg (by omega), if_neg e0, if_pos e2]
  · rw [if_neg (by omega), if_neg (by omega), if_neg (by omega), if_neg e0, if_neg e2, if_neg e1, if_pos (by omega)]
theorem cls4 {b0 b1 b2 b3 : Nat} (h : b0 / 8 = 30) (h1 : b1 / 64 = 2) (h2 : 65536 ≤ b0 % 8 * 262144 + b1 % 64 * 4096 + b2 % 64 * 64 + b3 % 64) (h3 : vr (b0 % 8 * 262144 + b1 % 64 * 4096 + b2 % 64 * 64 + b3 % 64)) : Cls b0 b1 4 := by
  unfold vr at h3
  by_cases e0 : b0 = 240
  · subst e0
    exact cls_of (x := 52) 4 3 rfl (by decide) rfl rfl (by decide) (by show 144 ≤ b1; omega) (by show b1 ≤ 191; omega)
  by_cases e1 : b0 = 244
  · subst e1
    exact cls_of (x := 68) 4 4 rfl (by decide) rfl rfl (by decide) (by show 128 ≤ b1; omega) (by show b1 ≤ 143; omega)
  refine cls_of (x := 4) 4 0 ?_ (by decide) rfl rfl (by decide) (by show 128 ≤ b1; omega) (by show b1 ≤ 191; omega)
  unfold Go.Lib.firstT
  rw [if_neg (by omega), if_neg (by omega), if_neg (by omega), if_neg (by omega), if_neg (by omega), if_neg (by omega), if_neg (by omega), if_neg e0, if_pos (by omega)]
/-- What a rune of more than one byte is made of. -/
theorem decL_big {L : List UInt8} {r n : Nat} (h : decL L = some (r, n)) (hn : n ≠ 1) :
    (∃ b0 b1 T, L = b0 :: b1 :: T ∧ n = 2 ∧ r = b0.toNat % 32 * 64 + b1.toNat % 64 ∧ 128 ≤ b0.toNat ∧ Cls b0.toNat b1.toNat 2) ∨
    (∃ b0 b1 b2 T, L = b0 :: b1 :: b2 :: T ∧ n = 3 ∧ r = b0.toNat % 16 * 4096 + b1.toNat % 64 * 64 + b2.toNat % 64 ∧ 128 ≤ b0.toNat ∧ Cls b0.toNat b1.toNat 3 ∧ b2.toNat / 64 = 2) ∨
    (∃ b0 b1 b2 b3 T, L = b0 :: b1 :: b2 :: b3 :: T ∧ n = 4 ∧ r = b0.toNat % 8 * 262144 + b1.toNat % 64 * 4096 + b2.toNat % 64 * 64 + b3.toNat % 64 ∧ 128 ≤ b0.toNat ∧ Cls b0.toNat b1.toNat 4 ∧ b2.toNat / 64 = 2 ∧ b3.toNat / 64 = 2) := by
  unfold decL at h
  match L, h with
  | b0 :: T, h =>
    simp only at h
    split at h
    · injection h with h; injection h with h1 h2
      exact absurd h2.symm hn
    · rename_i g0
      split at h
      · rename_i g1
        match T, h with
        | b1 :: T, h =>
          simp only at h
          split at h
          · rename_i g2
            injection h with h; injection h with h1 h2
            exact .inl ⟨b0, b1, T, rfl, h2.symm, h1.symm, by omega, cls2 g1 g2.1 g2.2⟩
          · cases h
      · split at h
        · rename_i g1 g1'
          match T, h with
          | b1 :: b2 :: T, h =>
            simp only at h
            split at h
            · rename_i g2
              injection h with h; injection h with h1 h2
              exact .inr (.inl ⟨b0, b1, b2, T, rfl, h2.symm, h1.symm, by omega, cls3 g1' g2.1.1 g2.2.1 g2.2.2, g2.1.2⟩)
            · cases h
        · split at h
          · rename_i g1 g1' g1''
            match T, h with
            | b1 :: b2 :: b3 :: T, h =>
              simp only at h
              split at h
              · rename_i g2
                injection h with h; injection h with h1 h2
                exact .inr (.inr ⟨b0, b1, b2, b3, T, rfl, h2.symm, h1.symm, by omega, cls4 g1'' g2.1.1 g2.2.1 g2.2.2, g2.1.2.1, g2.1.2.2⟩)
              · cases h
          · cases h
end Go.Proofs.YtimddbgnaeeggaaDoor.KD
