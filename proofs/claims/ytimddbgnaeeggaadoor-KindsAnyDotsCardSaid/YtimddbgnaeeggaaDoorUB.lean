import Derived.Test.YtimddbgnaeeggaaDoorUA
import Derived.Test.YtimddbgnaeeggaaDoorKE
namespace Go.Proofs.YtimddbgnaeeggaaDoor.KD
open Go.Eng
set_option maxRecDepth 100000
theorem x7_ {x n : Nat} (h : x < 240) (h8 : x % 8 = n) : IntKind.i64.wrap (bitx .and .u8 (x : Int) 7) = (n : Int) := by
  rw [show (7 : Int) = ((7 : Nat) : Int) from rfl, and8 (by omega) (by decide), show (7 : Nat) = 2 ^ 3 - 1 from rfl, and_m, i64w (by omega) (by omega)]
  omega
theorem x4_ {x q : Nat} (h : x / 16 = q) : (x : Int).fdiv (2 ^ min (Int.toNat 4) IntKind.u8.bits) = (q : Int) := by
  rw [show (2 : Int) ^ min (Int.toNat 4) IntKind.u8.bits = ((16 : Nat) : Int) from rfl, fdivN, h]
theorem i32n {x : Nat} (h : x < 2147483648) : IntKind.i32.wrap (x : Int) = (x : Int) := by
  simp only [IntKind.wrap, IntKind.signed, IntKind.bits]
  simp
  omega
theorem andk {a : Nat} (k : Nat) (ha : a < 256) (hk : k ≤ 8 ∧ 1 ≤ k) {z : Int} (hz : z = ((2 ^ k - 1 : Nat) : Int)) : IntKind.i32.wrap (bitx .and .u8 (a : Int) z) = ((a % 2 ^ k : Nat) : Int) := by
  have h1 : 2 ^ k ≤ 2 ^ 8 := Nat.pow_le_pow_right (by decide) hk.1
  have h2 : 1 ≤ 2 ^ k := Nat.one_le_two_pow
  have h3 := Nat.mod_lt a (y := 2 ^ k) (by omega)
  rw [hz, and8 ha (by omega), and_m, i32n (by omega)]
theorem shl32 {a : Nat} (k : Nat) (h : a * 2 ^ k < 2147483648) {z : Int} (hz : min z.toNat IntKind.i32.bits = k) : IntKind.i32.wrap ((a : Int) * 2 ^ (min z.toNat IntKind.i32.bits)) = ((a * 2 ^ k : Nat) : Int) := by
  rw [hz, show ((a : Int) * 2 ^ k) = ((a * 2 ^ k : Nat) : Int) by rw [Int.natCast_mul, Int.natCast_pow]; rfl, i32n h]
theorem v2 {a b : Nat} (ha : a < 256) (hb : b < 256) : bitx .or .i32 (IntKind.i32.wrap (IntKind.i32.wrap (bitx .and .u8 (a : Int) 31) * 2 ^ min (Int.toNat 6) IntKind.i32.bits)) (IntKind.i32.wrap (bitx .and .u8 (b : Int) 63)) = ((a % 32 * 64 + b % 64 : Nat) : Int) := by
  rw [andk 5 ha (by decide) (z := 31) rfl, andk 6 hb (by decide) (z := 63) rfl, shl32 6 (by omega) (z := 6) rfl, or32 (by omega) (by omega), or_add 6 (by omega)]
theorem v3 {a b c : Nat} (ha : a < 256) (hb : b < 256) (hc : c < 256) : bitx .or .i32 (bitx .or .i32 (IntKind.i32.wrap (IntKind.i32.wrap (bitx .and .u8 (a : Int) 15) * 2 ^ min (Int.toNat 12) IntKind.i32.bits)) (IntKind.i32.wrap (IntKind.i32.wrap (bitx .and .u8 (b : Int) 63) * 2 ^ min (Int.toNat 6) IntKind.i32.bits))) (IntKind.i32.wrap (bitx .and .u8 (c : Int) 63)) = ((a % 16 * 4096 + b % 64 * 64 + c % 64 : Nat) : Int) := by
  rw [andk 4 ha (by decide) (z := 15) rfl, andk 6 hb (by decide) (z := 63) rfl, andk 6 hc (by decide) (z := 63) rfl, shl32 6 (by omega) (z := 6) rfl, shl32 12 (by omega) (z := 12) rfl, or32 (by omega) (by omega), or_add 12 (by omega), or32 (by omega) (by omega),
    show a % 2 ^ 4 * 2 ^ 12 + b % 2 ^ 6 * 2 ^ 6 = (a % 2 ^ 4 * 64 + b % 2 ^ 6) * 2 ^ 6 by omega, or_add 6 (by omega)]
theorem v4 {a b c d : Nat} (ha : a < 256) (hb : b < 256) (hc : c < 256) (hd : d < 256) : bitx .or .i32 (bitx .or .i32 (bitx .or .i32 (IntKind.i32.wrap (IntKind.i32.wrap (bitx .and .u8 (a : Int) 7) * 2 ^ min (Int.toNat 18) IntKind.i32.bits)) (IntKind.i32.wrap (IntKind.i32.wrap (bitx .and .u8 (b : Int) 63) * 2 ^ min (Int.toNat 12) IntKind.i32.bits))) (IntKind.i32.wrap (IntKind.i32.wrap (bitx .and .u8 (c : Int) 63) * 2 ^ min (Int.toNat 6) IntKind.i32.bits))) (IntKind.i32.wrap (bitx .and .u8 (d : Int) 63)) = ((a % 8 * 262144 + b % 64 * 4096 + c % 64 * 64 + d % 64 : Nat) : Int) := by
  rw [andk 3 ha (by decide) (z := 7) rfl, andk 6 hb (by decide) (z := 63) rfl, andk 6 hc (by decide) (z := 63) rfl, andk 6 hd (by decide) (z := 63) rfl, shl32 6 (by omega) (z := 6) rfl, shl32 12 (by omega) (z := 12) rfl, shl32 18 (by omega) (z := 18) rfl, or32 (by omega) (by omega), or_add 18 (by omega), or32 (by omega) (by omega),
    show a % 2 ^ 3 * 2 ^ 18 + b % 2 ^ 6 * 2 ^ 12 = (a % 2 ^ 3 * 64 + b % 2 ^ 6) * 2 ^ 12 by omega, or_add 12 (by omega), or32 (by omega) (by omega),
    show (a % 2 ^ 3 * 64 + b % 2 ^ 6) * 2 ^ 12 + c % 2 ^ 6 * 2 ^ 6 = ((a % 2 ^ 3 * 64 + b % 2 ^ 6) * 64 + c % 2 ^ 6) * 2 ^ 6 by omega, or_add 6 (by omega)]
section
variable {ro : Addr → A → Prop}
set_option maxHeartbeats 2000000 in
theorem slow2 (hT : Tabs ro) (b0 b1 : UInt8) (T : List UInt8) (hl : T.length ≤ 1000) (h8 : 128 ≤ b0.toNat) (hc : Cls b0.toNat b1.toNat 2) {K : V → Hp → Prop}
    (hK : K (.t [.a (.int .i32 ((b0.toNat % 32 * 64 + b1.toNat % 64 : Nat) : Int)), .a (.int .i64 2)]) []) :
    Go.Eng.Fn Tryd.prog ro 115 [.a (.str (bs (b0 :: b1 :: T)))] [] K := by
  obtain ⟨m, hm⟩ : ∃ m : Nat, m = 2 := ⟨_, rfl⟩
  rw [← hm] at hc
  obtain ⟨x, q, hx, x240, x8, x16, q16, hlo, hhi⟩ := hc
  have hsz := bs_size (b0 :: b1 :: T)
  simp only [List.length_cons] at hsz
  have g0 : byteAt (bs (b0 :: b1 :: T)) 0 = some b0 := byteAt_bs (i := 0) rfl
  have g1 : byteAt (bs (b0 :: b1 :: T)) 1 = some b1 := byteAt_bs (i := 1) rfl
  generalize bs (b0 :: b1 :: T) = s at *
  have l0 : b0.toNat < 256 := b0.toNat_lt
  have l1 : b1.toNat < 256 := b1.toNat_lt
  have g2 := True.intro
  have g3 := True.intro
  have c0 : decide ((s.size : Int) < 1) = false := decide_eq_false (by omega)
  obtain ⟨Z0, hZ0⟩ : ∃ Z : Int, Z = (b0.toNat : Int) := ⟨_, rfl⟩
  obtain ⟨Z1, hZ1⟩ : ∃ Z : Int, Z = (b1.toNat : Int) := ⟨_, rfl⟩
  obtain ⟨X, hX⟩ : ∃ Z : Int, Z = (x : Int) := ⟨_, rfl⟩
  obtain ⟨lo, hlo0⟩ : ∃ Z : Int, Z = (Go.Lib.accLo q : Int) := ⟨_, rfl⟩
  obtain ⟨hi, hhi0⟩ : ∃ Z : Int, Z = (Go.Lib.accHi q : Int) := ⟨_, rfl⟩
  have c1 : decide (0 ≤ Z0 ∧ Z0 < 256) = true := decide_eq_true (by omega)
  have c2 : decide (X ≥ 240) = false := decide_eq_false (by omega)
  have r1 := hT.first b0.toNat l0
  rw [hx] at r1
  have e1 : (Go.Addr.add ⟨1, 0, none⟩ (Z0.toNat * Tryd.prog.types[5].size)) = ⟨1, b0.toNat, none⟩ := by
    rw [add_none, hZ0, Int.toNat_natCast, s5, Nat.mul_one, Nat.zero_add]
  rw [← e1, ← hX] at r1
  have x7 : IntKind.i64.wrap (bitx .and .u8 X 7) = (m : Int) := by
    rw [hX]; exact x7_ x240 x8
  have x4 : X.fdiv (2 ^ min (Int.toNat 4) IntKind.u8.bits) = (q : Int) := by
    rw [hX]; exact x4_ x16
  have r2 : ∀ j y, ([.int .u8 lo, .int .u8 hi] : List A)[j]? = some y → ro ((Go.Addr.add ⟨2, 0, none⟩ ((q : Int).toNat * Tryd.prog.types[167].size)).add j) y := fun j y h => by
    rw [Int.toNat_natCast, show Tryd.prog.types[167].size = 2 from rfl, add_none, add_none, Nat.zero_add, Nat.mul_comm]
    match j, h with
    | 0, h => injection h with h; rw [← h, hlo0]; exact hT.lo q q16
    | 1, h => injection h with h; rw [← h, hhi0]; exact hT.hi q q16
    | j + 2, h => cases h
  have c5 : decide (Z1 < lo) = false := decide_eq_false (by omega)
  have c6 : decide (hi < Z1) = false := decide_eq_false (by omega)
  refine Fn.weak ?_
  refine Fn.of_code (cutAt [5, 6, 14, 19, 24] (gOf [])) Tryd.func115 rfl (Nat.le_of_ble_eq_true rfl) ?_
  clear e1 hx x240 x8 x16 hlo hhi h8 hT hX
  generalize hY : IntKind.i64.wrap (bitx .and .u8 X 7) = Y at x7
  generalize hQ : X.fdiv (2 ^ min (Int.toNat 4) IntKind.u8.bits) = Qz at x4
  conv => whnf
  repeat' ((first | (with_reducible refine y'b ‹_› ?_) | ((with_reducible apply y'o); (· first | exact g0 | exact g1 | exact g2 | exact g3)) | fail) <;> (conv => whnf))
  refine cutx_of (fun F H => F = [(0, .a (.str s)), (4, .a (.int .i64 (s.size : Int))), (5, .a (.int .u8 Z0))] ∧ H = []) ?_ ?_
  · exact Into.weak [] [(0, .a (.str s)), (4, .a (.int .i64 (s.size : Int))), (5, .a (.int .u8 Z0))] [] ⟨rfl, rfl⟩ ⟨rfl, rfl, congrArg (fun z => some (V.a (.int .u8 z))) hZ0.symm, trivial⟩ trivial rfl
  rintro F H ⟨rfl, rfl⟩
  conv => whnf
  repeat' ((first | ((with_reducible refine y'n ?_ ?_); (· first | with_reducible assumption | exact decide_eq_true (by omega) | decide +kernel)) | fail) <;> (conv => whnf))
  refine ⟨_, r1, ?_⟩
  conv => whnf
  skip
  refine cutx_of (fun F H => F = [(0, .a (.str s)), (4, .a (.int .i64 (s.size : Int))), (5, .a (.int .u8 Z0)), (6, .a (.int .u8 X))] ∧ H = []) ?_ ?_
  · exact Into.weak [] [(0, .a (.str s)), (4, .a (.int .i64 (s.size : Int))), (5, .a (.int .u8 Z0)), (6, .a (.int .u8 X))] [] ⟨rfl, rfl⟩ ⟨rfl, rfl, rfl, rfl, trivial⟩ trivial rfl
  rintro F H ⟨rfl, rfl⟩
  clear r1 c0 c1
  conv => whnf
  repeat' ((first | (with_reducible refine y'b ‹_› ?_) | ((with_reducible refine y'n ?_ ?_); (· first | with_reducible assumption | exact decide_eq_true (by omega) | decide +kernel)) | fail) <;> (conv => whnf))
  rw [hQ, x4]
  refine ⟨_, rfl, r2, ?_⟩
  have c3 : decide ((s.size : Int) < Y) = false := decide_eq_false (by omega)
  conv => whnf
  skip
  rw [hY]
  conv => whnf
  repeat' ((first | (with_reducible refine y'b ‹_› ?_) | ((with_reducible apply y'o); (· first | exact g0 | exact g1 | exact g2 | exact g3)) | fail) <;> (conv => whnf))
  clear hQ x4
  refine cutx_of (fun F H => F = [(0, .a (.str s)), (5, .a (.int .u8 Z0)), (8, .a (.int .i64 Y)), (9, .a (.ptr 0 0)), (10, .a (.int .u8 Z1))] ∧ H = [.cells [.int .u8 lo, .int .u8 hi] 167 false]) ?_ ?_
  · exact Into.weak [0] [(0, .a (.str s)), (5, .a (.int .u8 Z0)), (8, .a (.int .i64 Y)), (9, .a (.ptr 0 0)), (10, .a (.int .u8 Z1))] [.cells [.int .u8 lo, .int .u8 hi] 167 false] ⟨rfl, rfl⟩ ⟨rfl, rfl, rfl, rfl, congrArg (fun z => some (V.a (.int .u8 z))) hZ1.symm, trivial⟩ ⟨rfl, trivial⟩ rfl
  rintro F H ⟨rfl, rfl⟩
  clear hY c3 r2
  have c7 : decide (Y ≤ 2) = true := decide_eq_true (by omega)
  conv => whnf
  repeat' ((first | (with_reducible refine y'b ‹_› ?_) | fail) <;> (conv => whnf))
  refine keepOf (v₀ := .t [.a (.int .i32 ((b0.toNat % 32 * 64 + b1.toNat % 64 : Nat) : Int)), .a (.int .i64 2)]) [] [] ?_ trivial rfl hK
  rw [hZ0, hZ1, v2 l0 l1]
  rfl
set_option maxHeartbeats 2000000 in
theorem slow3 (hT : Tabs ro) (b0 b1 b2 : UInt8) (T : List UInt8) (hl : T.length ≤ 1000) (h8 : 128 ≤ b0.toNat) (hc : Cls b0.toNat b1.toNat 3) (h2 : b2.toNat / 64 = 2) {K : V → Hp → Prop}
    (hK : K (.t [.a (.int .i32 ((b0.toNat % 16 * 4096 + b1.toNat % 64 * 64 + b2.toNat % 64 : Nat) : Int)), .a (.int .i64 3)]) []) :
    Go.Eng.Fn Tryd.prog ro 115 [.a (.str (bs (b0 :: b1 :: b2 :: T)))] [] K := by
  obtain ⟨m, hm⟩ : ∃ m : Nat, m = 3 := ⟨_, rfl⟩
  rw [← hm] at hc
  obtain ⟨x, q, hx, x240, x8, x16, q16, hlo, hhi⟩ := hc
  have hsz := bs_size (b0 :: b1 :: b2 :: T)
  simp only [List.length_cons] at hsz
  have g0 : byteAt (bs (b0 :: b1 :: b2 :: T)) 0 = some b0 := byteAt_bs (i := 0) rfl
  have g1 : byteAt (bs (b0 :: b1 :: b2 :: T)) 1 = some b1 := byteAt_bs (i := 1) rfl
  have g2 : byteAt (bs (b0 :: b1 :: b2 :: T)) 2 = some b2 := byteAt_bs (i := 2) rfl
  generalize bs (b0 :: b1 :: b2 :: T) = s at *
  have l0 : b0.toNat < 256 := b0.toNat_lt
  have l1 : b1.toNat < 256 := b1.toNat_lt
  have l2 : b2.toNat < 256 := b2.toNat_lt
  have g3 := True.intro
  have c0 : decide ((s.size : Int) < 1) = false := decide_eq_false (by omega)
  obtain ⟨Z0, hZ0⟩ : ∃ Z : Int, Z = (b0.toNat : Int) := ⟨_, rfl⟩
  obtain ⟨Z1, hZ1⟩ : ∃ Z : Int, Z = (b1.toNat : Int) := ⟨_, rfl⟩
  obtain ⟨X, hX⟩ : ∃ Z : Int, Z = (x : Int) := ⟨_, rfl⟩
  obtain ⟨lo, hlo0⟩ : ∃ Z : Int, Z = (Go.Lib.accLo q : Int) := ⟨_, rfl⟩
  obtain ⟨hi, hhi0⟩ : ∃ Z : Int, Z = (Go.Lib.accHi q : Int) := ⟨_, rfl⟩
  have c1 : decide (0 ≤ Z0 ∧ Z0 < 256) = true := decide_eq_true (by omega)
  have c2 : decide (X ≥ 240) = false := decide_eq_false (by omega)
  have r1 := hT.first b0.toNat l0
  rw [hx] at r1
  have e1 : (Go.Addr.add ⟨1, 0, none⟩ (Z0.toNat * Tryd.prog.types[5].size)) = ⟨1, b0.toNat, none⟩ := by
    rw [add_none, hZ0, Int.toNat_natCast, s5, Nat.mul_one, Nat.zero_add]
  rw [← e1, ← hX] at r1
  have x7 : IntKind.i64.wrap (bitx .and .u8 X 7) = (m : Int) := by
    rw [hX]; exact x7_ x240 x8
  have x4 : X.fdiv (2 ^ min (Int.toNat 4) IntKind.u8.bits) = (q : Int) := by
    rw [hX]; exact x4_ x16
  have r2 : ∀ j y, ([.int .u8 lo, .int .u8 hi] : List A)[j]? = some y → ro ((Go.Addr.add ⟨2, 0, none⟩ ((q : Int).toNat * Tryd.prog.types[167].size)).add j) y := fun j y h => by
    rw [Int.toNat_natCast, show Tryd.prog.types[167].size = 2 from rfl, add_none, add_none, Nat.zero_add, Nat.mul_comm]
    match j, h with
    | 0, h => injection h with h; rw [← h, hlo0]; exact hT.lo q q16
    | 1, h => injection h with h; rw [← h, hhi0]; exact hT.hi q q16
    | j + 2, h => cases h
  have c5 : decide (Z1 < lo) = false := decide_eq_false (by omega)
  have c6 : decide (hi < Z1) = false := decide_eq_false (by omega)
  refine Fn.weak ?_
  refine Fn.of_code (cutAt [5, 6, 14, 19, 24] (gOf [])) Tryd.func115 rfl (Nat.le_of_ble_eq_true rfl) ?_
  clear e1 hx x240 x8 x16 hlo hhi h8 hT hX
  generalize hY : IntKind.i64.wrap (bitx .and .u8 X 7) = Y at x7
  generalize hQ : X.fdiv (2 ^ min (Int.toNat 4) IntKind.u8.bits) = Qz at x4
  conv => whnf
  repeat' ((first | (with_reducible refine y'b ‹_› ?_) | ((with_reducible apply y'o); (· first | exact g0 | exact g1 | exact g2 | exact g3)) | fail) <;> (conv => whnf))
  refine cutx_of (fun F H => F = [(0, .a (.str s)), (4, .a (.int .i64 (s.size : Int))), (5, .a (.int .u8 Z0))] ∧ H = []) ?_ ?_
  · exact Into.weak [] [(0, .a (.str s)), (4, .a (.int .i64 (s.size : Int))), (5, .a (.int .u8 Z0))] [] ⟨rfl, rfl⟩ ⟨rfl, rfl, congrArg (fun z => some (V.a (.int .u8 z))) hZ0.symm, trivial⟩ trivial rfl
  rintro F H ⟨rfl, rfl⟩
  conv => whnf
  repeat' ((first | ((with_reducible refine y'n ?_ ?_); (· first | with_reducible assumption | exact decide_eq_true (by omega) | decide +kernel)) | fail) <;> (conv => whnf))
  refine ⟨_, r1, ?_⟩
  conv => whnf
  skip
  refine cutx_of (fun F H => F = [(0, .a (.str s)), (4, .a (.int .i64 (s.size : Int))), (5, .a (.int .u8 Z0)), (6, .a (.int .u8 X))] ∧ H = []) ?_ ?_
  · exact Into.weak [] [(0, .a (.str s)), (4, .a (.int .i64 (s.size : Int))), (5, .a (.int .u8 Z0)), (6, .a (.int .u8 X))] [] ⟨rfl, rfl⟩ ⟨rfl, rfl, rfl, rfl, trivial⟩ trivial rfl
  rintro F H ⟨rfl, rfl⟩
  clear r1 c0 c1
  conv => whnf
  repeat' ((first | (with_reducible refine y'b ‹_› ?_) | ((with_reducible refine y'n ?_ ?_); (· first | with_reducible assumption | exact decide_eq_true (by omega) | decide +kernel)) | fail) <;> (conv => whnf))
  rw [hQ, x4]
  refine ⟨_, rfl, r2, ?_⟩
  have c3 : decide ((s.size : Int) < Y) = false := decide_eq_false (by omega)
  conv => whnf
  skip
  rw [hY]
  conv => whnf
  repeat' ((first | (with_reducible refine y'b ‹_› ?_) | ((with_reducible apply y'o); (· first | exact g0 | exact g1 | exact g2 | exact g3)) | fail) <;> (conv => whnf))
  clear hQ x4
  refine cutx_of (fun F H => F = [(0, .a (.str s)), (5, .a (.int .u8 Z0)), (8, .a (.int .i64 Y)), (9, .a (.ptr 0 0)), (10, .a (.int .u8 Z1))] ∧ H = [.cells [.int .u8 lo, .int .u8 hi] 167 false]) ?_ ?_
  · exact Into.weak [0] [(0, .a (.str s)), (5, .a (.int .u8 Z0)), (8, .a (.int .i64 Y)), (9, .a (.ptr 0 0)), (10, .a (.int .u8 Z1))] [.cells [.int .u8 lo, .int .u8 hi] 167 false] ⟨rfl, rfl⟩ ⟨rfl, rfl, rfl, rfl, congrArg (fun z => some (V.a (.int .u8 z))) hZ1.symm, trivial⟩ ⟨rfl, trivial⟩ rfl
  rintro F H ⟨rfl, rfl⟩
  clear hY c3 r2
  have c7 : decide (Y ≤ 2) = false := decide_eq_false (by omega)
  obtain ⟨Z2, hZ2⟩ : ∃ Z : Int, Z = (b2.toNat : Int) := ⟨_, rfl⟩
  conv => whnf
  repeat' ((first | (with_reducible refine y'b ‹_› ?_) | ((with_reducible apply y'o); (· first | exact g0 | exact g1 | exact g2 | exact g3)) | fail) <;> (conv => whnf))
  refine cutx_of (fun F H => F = [(0, .a (.str s)), (5, .a (.int .u8 Z0)), (8, .a (.int .i64 Y)), (10, .a (.int .u8 Z1)), (11, .a (.int .u8 Z2))] ∧ H = []) ?_ ?_
  · exact Into.weak [] [(0, .a (.str s)), (5, .a (.int .u8 Z0)), (8, .a (.int .i64 Y)), (10, .a (.int .u8 Z1)), (11, .a (.int .u8 Z2))] [] ⟨rfl, rfl⟩ ⟨rfl, rfl, rfl, rfl, congrArg (fun z => some (V.a (.int .u8 z))) hZ2.symm, trivial⟩ trivial rfl
  rintro F H ⟨rfl, rfl⟩
  clear c5 c6 c7
  have c8 : decide (Z2 < 128) = false := decide_eq_false (by omega)
  have c9 : decide (191 < Z2) = false := decide_eq_false (by omega)
  have d1 : decide (Y ≤ 3) = true := decide_eq_true (by omega)
  conv => whnf
  repeat' ((first | (with_reducible refine y'b ‹_› ?_) | fail) <;> (conv => whnf))
  refine keepOf (v₀ := .t [.a (.int .i32 ((b0.toNat % 16 * 4096 + b1.toNat % 64 * 64 + b2.toNat % 64 : Nat) : Int)), .a (.int .i64 3)]) [] [] ?_ trivial rfl hK
  rw [hZ0, hZ1, hZ2, v3 l0 l1 l2]
  rfl
set_option maxHeartbeats 2000000 in
theorem slow4 (hT : Tabs ro) (b0 b1 b2 b3 : UInt8) (T : List UInt8) (hl : T.length ≤ 1000) (h8 : 128 ≤ b0.toNat) (hc : Cls b0.toNat b1.toNat 4) (h2 : b2.toNat / 64 = 2) (h3 : b3.toNat / 64 = 2) {K : V → Hp → Prop}
    (hK : K (.t [.a (.int .i32 ((b0.toNat % 8 * 262144 + b1.toNat % 64 * 4096 + b2.toNat % 64 * 64 + b3.toNat % 64 : Nat) : Int)), .a (.int .i64 4)]) []) :
    Go.Eng.Fn Tryd.prog ro 115 [.a (.str (bs (b0 :: b1 :: b2 :: b3 :: T)))] [] K := by
  obtain ⟨m, hm⟩ : ∃ m : Nat, m = 4 := ⟨_, rfl⟩
  rw [← hm] at hc
  obtain ⟨x, q, hx, x240, x8, x16, q16, hlo, hhi⟩ := hc
  have hsz := bs_size (b0 :: b1 :: b2 :: b3 :: T)
  simp only [List.length_cons] at hsz
  have g0 : byteAt (bs (b0 :: b1 :: b2 :: b3 :: T)) 0 = some b0 := byteAt_bs (i := 0) rfl
  have g1 : byteAt (bs (b0 :: b1 :: b2 :: b3 :: T)) 1 = some b1 := byteAt_bs (i := 1) rfl
  have g2 : byteAt (bs (b0 :: b1 :: b2 :: b3 :: T)) 2 = some b2 := byteAt_bs (i := 2) rfl
  have g3 : byteAt (bs (b0 :: b1 :: b2 :: b3 :: T)) 3 = some b3 := byteAt_bs (i := 3) rfl
  generalize bs (b0 :: b1 :: b2 :: b3 :: T) = s at *
  have l0 : b0.toNat < 256 := b0.toNat_lt
  have l1 : b1.toNat < 256 := b1.toNat_lt
  have l2 : b2.toNat < 256 := b2.toNat_lt
  have l3 : b3.toNat < 256 := b3.toNat_lt
  have c0 : decide ((s.size : Int) < 1) = false := decide_eq_false (by omega)
  obtain ⟨Z0, hZ0⟩ : ∃ Z : Int, Z = (b0.toNat : Int) := ⟨_, rfl⟩
  obtain ⟨Z1, hZ1⟩ : ∃ Z : Int, Z = (b1.toNat : Int) := ⟨_, rfl⟩
  obtain ⟨X, hX⟩ : ∃ Z : Int, Z = (x : Int) := ⟨_, rfl⟩
  obtain ⟨lo, hlo0⟩ : ∃ Z : Int, Z = (Go.Lib.accLo q : Int) := ⟨_, rfl⟩
  obtain ⟨hi, hhi0⟩ : ∃ Z : Int, Z = (Go.Lib.accHi q : Int) := ⟨_, rfl⟩
  have c1 : decide (0 ≤ Z0 ∧ Z0 < 256) = true := decide_eq_true (by omega)
  have c2 : decide (X ≥ 240) = false := decide_eq_false (by omega)
  have r1 := hT.first b0.toNat l0
  rw [hx] at r1
  have e1 : (Go.Addr.add ⟨1, 0, none⟩ (Z0.toNat * Tryd.prog.types[5].size)) = ⟨1, b0.toNat, none⟩ := by
    rw [add_none, hZ0, Int.toNat_natCast, s5, Nat.mul_one, Nat.zero_add]
  rw [← e1, ← hX] at r1
  have x7 : IntKind.i64.wrap (bitx .and .u8 X 7) = (m : Int) := by
    rw [hX]; exact x7_ x240 x8
  have x4 : X.fdiv (2 ^ min (Int.toNat 4) IntKind.u8.bits) = (q : Int) := by
    rw [hX]; exact x4_ x16
  have r2 : ∀ j y, ([.int .u8 lo, .int .u8 hi] : List A)[j]? = some y → ro ((Go.Addr.add ⟨2, 0, none⟩ ((q : Int).toNat * Tryd.prog.types[167].size)).add j) y := fun j y h => by
    rw [Int.toNat_natCast, show Tryd.prog.types[167].size = 2 from rfl, add_none, add_none, Nat.zero_add, Nat.mul_comm]
    match j, h with
    | 0, h => injection h with h; rw [← h, hlo0]; exact hT.lo q q16
    | 1, h => injection h with h; rw [← h, hhi0]; exact hT.hi q q16
    | j + 2, h => cases h
  have c5 : decide (Z1 < lo) = false := decide_eq_false (by omega)
  have c6 : decide (hi < Z1) = false := decide_eq_false (by omega)
  refine Fn.weak ?_
  refine Fn.of_code (cutAt [5, 6, 14, 19, 24] (gOf [])) Tryd.func115 rfl (Nat.le_of_ble_eq_true rfl) ?_
  clear e1 hx x240 x8 x16 hlo hhi h8 hT hX
  generalize hY : IntKind.i64.wrap (bitx .and .u8 X 7) = Y at x7
  generalize hQ : X.fdiv (2 ^ min (Int.toNat 4) IntKind.u8.bits) = Qz at x4
  conv => whnf
  repeat' ((first | (with_reducible refine y'b ‹_› ?_) | ((with_reducible apply y'o); (· first | exact g0 | exact g1 | exact g2 | exact g3)) | fail) <;> (conv => whnf))
  refine cutx_of (fun F H => F = [(0, .a (.str s)), (4, .a (.int .i64 (s.size : Int))), (5, .a (.int .u8 Z0))] ∧ H = []) ?_ ?_
  · exact Into.weak [] [(0, .a (.str s)), (4, .a (.int .i64 (s.size : Int))), (5, .a (.int .u8 Z0))] [] ⟨rfl, rfl⟩ ⟨rfl, rfl, congrArg (fun z => some (V.a (.int .u8 z))) hZ0.symm, trivial⟩ trivial rfl
  rintro F H ⟨rfl, rfl⟩
  conv => whnf
  repeat' ((first | ((with_reducible refine y'n ?_ ?_); (· first | with_reducible assumption | exact decide_eq_true (by omega) | decide +kernel)) | fail) <;> (conv => whnf))
  refine ⟨_, r1, ?_⟩
  conv => whnf
  skip
  refine cutx_of (fun F H => F = [(0, .a (.str s)), (4, .a (.int .i64 (s.size : Int))), (5, .a (.int .u8 Z0)), (6, .a (.int .u8 X))] ∧ H = []) ?_ ?_
  · exact Into.weak [] [(0, .a (.str s)), (4, .a (.int .i64 (s.size : Int))), (5, .a (.int .u8 Z0)), (6, .a (.int .u8 X))] [] ⟨rfl, rfl⟩ ⟨rfl, rfl, rfl, rfl, trivial⟩ trivial rfl
  rintro F H ⟨rfl, rfl⟩
  clear r1 c0 c1
  conv => whnf
  repeat' ((first | (with_reducible refine y'b ‹_› ?_) | ((with_reducible refine y'n ?_ ?_); (· first | with_reducible assumption | exact decide_eq_true (by omega) | decide +kernel)) | fail) <;> (conv => whnf))
  rw [hQ, x4]
  refine ⟨_, rfl, r2, ?_⟩
  have c3 : decide ((s.size : Int) < Y) = false := decide_eq_false (by omega)
  conv => whnf
  skip
  rw [hY]
  conv => whnf
  repeat' ((first | (with_reducible refine y'b ‹_› ?_) | ((with_reducible apply y'o); (· first | exact g0 | exact g1 | exact g2 | exact g3)) | fail) <;> (conv => whnf))
  clear hQ x4
  refine cutx_of (fun F H => F = [(0, .a (.str s)), (5, .a (.int .u8 Z0)), (8, .a (.int .i64 Y)), (9, .a (.ptr 0 0)), (10, .a (.int .u8 Z1))] ∧ H = [.cells [.int .u8 lo, .int .u8 hi] 167 false]) ?_ ?_
  · exact Into.weak [0] [(0, .a (.str s)), (5, .a (.int .u8 Z0)), (8, .a (.int .i64 Y)), (9, .a (.ptr 0 0)), (10, .a (.int .u8 Z1))] [.cells [.int .u8 lo, .int .u8 hi] 167 false] ⟨rfl, rfl⟩ ⟨rfl, rfl, rfl, rfl, congrArg (fun z => some (V.a (.int .u8 z))) hZ1.symm, trivial⟩ ⟨rfl, trivial⟩ rfl
  rintro F H ⟨rfl, rfl⟩
  clear hY c3 r2
  have c7 : decide (Y ≤ 2) = false := decide_eq_false (by omega)
  obtain ⟨Z2, hZ2⟩ : ∃ Z : Int, Z = (b2.toNat : Int) := ⟨_, rfl⟩
  conv => whnf
  repeat' ((first | (with_reducible refine y'b ‹_› ?_) | ((with_reducible apply y'o); (· first | exact g0 | exact g1 | exact g2 | exact g3)) | fail) <;> (conv => whnf))
  refine cutx_of (fun F H => F = [(0, .a (.str s)), (5, .a (.int .u8 Z0)), (8, .a (.int .i64 Y)), (10, .a (.int .u8 Z1)), (11, .a (.int .u8 Z2))] ∧ H = []) ?_ ?_
  · exact Into.weak [] [(0, .a (.str s)), (5, .a (.int .u8 Z0)), (8, .a (.int .i64 Y)), (10, .a (.int .u8 Z1)), (11, .a (.int .u8 Z2))] [] ⟨rfl, rfl⟩ ⟨rfl, rfl, rfl, rfl, congrArg (fun z => some (V.a (.int .u8 z))) hZ2.symm, trivial⟩ trivial rfl
  rintro F H ⟨rfl, rfl⟩
  clear c5 c6 c7
  have c8 : decide (Z2 < 128) = false := decide_eq_false (by omega)
  have c9 : decide (191 < Z2) = false := decide_eq_false (by omega)
  have d1 : decide (Y ≤ 3) = false := decide_eq_false (by omega)
  obtain ⟨Z3, hZ3⟩ : ∃ Z : Int, Z = (b3.toNat : Int) := ⟨_, rfl⟩
  conv => whnf
  repeat' ((first | (with_reducible refine y'b ‹_› ?_) | ((with_reducible apply y'o); (· first | exact g0 | exact g1 | exact g2 | exact g3)) | fail) <;> (conv => whnf))
  refine cutx_of (fun F H => F = [(5, .a (.int .u8 Z0)), (10, .a (.int .u8 Z1)), (11, .a (.int .u8 Z2)), (12, .a (.int .u8 Z3))] ∧ H = []) ?_ ?_
  · exact Into.weak [] [(5, .a (.int .u8 Z0)), (10, .a (.int .u8 Z1)), (11, .a (.int .u8 Z2)), (12, .a (.int .u8 Z3))] [] ⟨rfl, rfl⟩ ⟨rfl, rfl, rfl, congrArg (fun z => some (V.a (.int .u8 z))) hZ3.symm, trivial⟩ trivial rfl
  rintro F H ⟨rfl, rfl⟩
  have d2 : decide (Z3 < 128) = false := decide_eq_false (by omega)
  have d3 : decide (191 < Z3) = false := decide_eq_false (by omega)
  conv => whnf
  repeat' ((first | (with_reducible refine y'b ‹_› ?_) | fail) <;> (conv => whnf))
  refine keepOf (v₀ := .t [.a (.int .i32 ((b0.toNat % 8 * 262144 + b1.toNat % 64 * 4096 + b2.toNat % 64 * 64 + b3.toNat % 64 : Nat) : Int)), .a (.int .i64 4)]) [] [] ?_ trivial rfl hK
  rw [hZ0, hZ1, hZ2, hZ3, v4 l0 l1 l2 l3]
  rfl
end
end Go.Proofs.YtimddbgnaeeggaaDoor.KD
