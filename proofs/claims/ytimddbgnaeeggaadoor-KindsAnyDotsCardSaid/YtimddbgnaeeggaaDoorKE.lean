import Derived.Test.YtimddbgnaeeggaaDoorKC
import Derived.Test.YtimddbgnaeeggaaDoorKK
namespace Go.Proofs.YtimddbgnaeeggaaDoor.KD
open Go.Eng
set_option maxRecDepth 100000
theorem s90 : Tryd.prog.types[90].size = 1 := rfl
theorem set_lt {c : List Nat} {k x : Nat} (h : ∀ n ∈ c, n < 65536) (hx : x < 65536) : ∀ n ∈ c.set k x, n < 65536 := by
  intro n hn
  rcases List.mem_or_eq_of_mem_set hn with hn | rfl
  · exact h n hn
  · exact hx
theorem set_ok {rs : List A} {x : A} {r w : Nat} (h : rs.length = 12) (hr : r < 6) (hw : w < 2) : ([x].length == Tryd.prog.types[90].size && decide (0 + (r : Int).toNat * Tryd.prog.types[91].size + Int.toNat (w : Int) * Tryd.prog.types[90].size + [x].length ≤ rs.length)) = true := by
  rw [s91, s90, h, Int.toNat_natCast, Int.toNat_natCast]
  show decide (0 + r * 2 + w * 1 + 1 ≤ 12) = true
  exact decide_eq_true (by omega)
theorem set16 {rs : List A} {c : List Nat} {r w x : Nat} (h : rs = u16s c) (hc : c.length = 12) (hr : r < 6) (hw : w < 2) : storeL rs (0 + (r : Int).toNat * Tryd.prog.types[91].size + Int.toNat (w : Int) * Tryd.prog.types[90].size) [.int .u16 (x : Int)] = u16s (c.set (r * 2 + w) x) := by
  have hl : rs.length = 12 := by rw [u16s_len h, hc]
  rw [s91, s90, Int.toNat_natCast, Int.toNat_natCast, storeL_row _ _ _ (by rw [hl]; simp; omega)]
  subst h
  unfold u16s
  rw [List.set_eq_take_append_cons_drop, if_pos (by omega)]
  simp [List.map_take, List.map_drop]
theorem st12 {rs : List A} (h : rs.length = 12) : (rs.length == Tryd.prog.types[93].size && decide (0 + rs.length ≤ ([.int .u16 0, .int .u16 0, .int .u16 0, .int .u16 0, .int .u16 0, .int .u16 0, .int .u16 0, .int .u16 0, .int .u16 0, .int .u16 0, .int .u16 0, .int .u16 0] : List A).length)) = true := by rw [s93, h]; rfl
theorem store12 {rs : List A} (h : rs.length = 12) : storeL [.int .u16 0, .int .u16 0, .int .u16 0, .int .u16 0, .int .u16 0, .int .u16 0, .int .u16 0, .int .u16 0, .int .u16 0, .int .u16 0, .int .u16 0, .int .u16 0] 0 rs = rs := store_all h
section
variable {ro : Addr → A → Prop}
set_option maxHeartbeats 1000000 in
theorem kind_tally (T : List UInt8) (hT : T.length ≤ 39) {K : V → Hp → Prop}
    (hK : ∀ k : UInt8, k = (if (tallyP T).2 = true then 3 else 0) → K (.a (.int .u8 (k.toNat : Int))) []) :
    Go.Eng.Fn Tryd.prog ro 24 [.a (.str (bs (3 :: T)))] [] K := by
  have hsz := bs_size (3 :: T)
  have g0 : byteAt (bs (3 :: T)) 0 = some 3 := byteAt_bs (i := 0) rfl
  have hx : (bs (3 :: T)).extract (Int.toNat 1) (bs (3 :: T)).size = bs T := by
    rw [bs_extract, hsz]
    congr 1
    show List.take ((3 :: T).length - 1) (List.drop 1 (3 :: T)) = T
    rw [List.drop_succ_cons, List.drop_zero, List.length_cons, Nat.add_sub_cancel, List.take_of_length_le (Nat.le_refl _)]
  have c0 : ((bs (3 :: T)).data.toList == ([] : List UInt8)) = false := rfl
  rw [List.length_cons] at hsz
  have c1 : decide (((bs (3 :: T)).size : Int) > 40) = false := decide_eq_false (by omega)
  have c2 : decide ((0 : Int) ≤ 1 ∧ (1 : Int) ≤ ((bs (3 :: T)).size : Int)) = true := decide_eq_true (by omega)
  generalize bs (3 :: T) = s at *
  refine Fn.weak ?_
  refine Fn.of_code (gOf []) Tryd.func24 rfl (Nat.le_of_ble_eq_true rfl) ?_
  conv => whnf
  repeat' ((first | (with_reducible refine y'b ‹_› ?_) | fail) <;> (conv => whnf))
  rw [hx]
  refine Fn.frame [] (by rfl) (by exact trivial) (by rfl) (newReader T ?_)
  conv => whnf
  repeat' ((first | (with_reducible refine y'b ‹_› ?_) | ((with_reducible apply y'o); (· first | exact g0 | exact g1 | exact g2)) | fail) <;> (conv => whnf))
  rw [hx]
  refine Fn.frame [] (by rfl) (by exact trivial) (by rfl) (tally1 T (by omega) (fun c ok rs ht hrs hc h16 => ?_))
  rw [ht] at hK
  have hp := u16s_pl hrs
  have hrl : rs.length = 12 := by rw [u16s_len hrs, hc]
  cases ok with
  | true =>
    have hk := hK 3 rfl
    conv => whnf
    repeat' ((first | (with_reducible first | refine y'5 ‹_› ?_ | refine y'6 ‹_› ?_) | (with_reducible first | refine y'n (st12 ‹_›) ?_ | refine y't (store12 ‹_›) ?_) | fail) <;> (conv => whnf))
    exact keepOf (v₀ := .a (.int .u8 3)) [] [] rfl trivial rfl hk
  | false =>
    have hk := hK 0 rfl
    conv => whnf
    repeat' ((first | (with_reducible first | refine y'5 ‹_› ?_ | refine y'6 ‹_› ?_) | (with_reducible first | refine y'n (st12 ‹_›) ?_ | refine y't (store12 ‹_›) ?_) | fail) <;> (conv => whnf))
    exact keepOf (v₀ := .a (.int .u8 0)) [] [] rfl trivial rfl hk
set_option maxHeartbeats 1000000 in
theorem step1 (T : List UInt8) (hT : T.length ≤ 39) (c : List Nat) (ht : tallyP T = (c, true)) (r : Nat) (hr : r < 256) (b : Int) (hb : -32768 ≤ b ∧ b ≤ 32767) {K : V → Hp → Prop}
    (hK1 : (r < 1 ∨ 5 < r) → K (.t [.a (.str ByteArray.empty), .a (.int .i64 1)]) [])
    (hK2 : ∀ u, 1 ≤ r → r ≤ 5 → c[r * 2 + (if b < 0 then 1 else 0)]? = some u → 65535 < b.natAbs + u → K (.t [.a (.str ByteArray.empty), .a (.int .i64 101)]) [])
    (hK3 : ∀ u, 1 ≤ r → r ≤ 5 → c[r * 2 + (if b < 0 then 1 else 0)]? = some u → b.natAbs + u ≤ 65535 → K (.t [.a (.str (bs (toldP (c.set (r * 2 + (if b < 0 then 1 else 0)) (b.natAbs + u))))), .a (.int .i64 0)]) []) :
    Go.Eng.Fn Tryd.prog ro 30 [.a (.str (bs (3 :: T))), .a (.int .u8 r), .a (.int .i16 b)] [] K := by
  have hsz := bs_size (3 :: T)
  have g0 : byteAt (bs (3 :: T)) 0 = some 3 := byteAt_bs (i := 0) rfl
  have hx : (bs (3 :: T)).extract (Int.toNat 1) (bs (3 :: T)).size = bs T := by
    rw [bs_extract, hsz]
    congr 1
    show List.take ((3 :: T).length - 1) (List.drop 1 (3 :: T)) = T
    rw [List.drop_succ_cons, List.drop_zero, List.length_cons, Nat.add_sub_cancel, List.take_of_length_le (Nat.le_refl _)]
  have c0 : ((bs (3 :: T)).data.toList == ([] : List UInt8)) = false := rfl
  rw [List.length_cons] at hsz
  have c1 : decide (((bs (3 :: T)).size : Int) > 40) = false := decide_eq_false (by omega)
  have c2 : decide ((0 : Int) ≤ 1 ∧ (1 : Int) ≤ ((bs (3 :: T)).size : Int)) = true := decide_eq_true (by omega)
  refine Fn.weak ?_
  refine Fn.of_code (gOf []) Tryd.func30 rfl (Nat.le_of_ble_eq_true rfl) ?_
  conv => whnf
  skip
  refine Fn.frame [] (by rfl) (by exact trivial) (by rfl) (kind_tally T hT (fun k hk => ?_))
  rw [ht] at hk
  obtain rfl : k = 3 := hk
  by_cases q1 : r < 1
  · have d1 : decide ((r : Int) < 1) = true := decide_eq_true (by omega)
    have hk := hK1 (.inl q1)
    generalize bs (3 :: T) = s at *
    conv => whnf
    repeat' ((first | (with_reducible refine y'b ‹_› ?_) | fail) <;> (conv => whnf))
    exact keepOf (v₀ := .t [.a (.str ByteArray.empty), .a (.int .i64 1)]) [] [] rfl trivial rfl hk
  have d1 : decide ((r : Int) < 1) = false := decide_eq_false (by omega)
  by_cases q2 : 5 < r
  · have d2 : decide ((r : Int) > 5) = true := decide_eq_true (by omega)
    have hk := hK1 (.inr q2)
    generalize bs (3 :: T) = s at *
    conv => whnf
    repeat' ((first | (with_reducible refine y'b ‹_› ?_) | fail) <;> (conv => whnf))
    exact keepOf (v₀ := .t [.a (.str ByteArray.empty), .a (.int .i64 1)]) [] [] rfl trivial rfl hk
  have d2 : decide ((r : Int) > 5) = false := decide_eq_false (by omega)
  clear hK1
  generalize bs (3 :: T) = s at *
  conv => whnf
  repeat' ((first | (with_reducible refine y'b ‹_› ?_) | fail) <;> (conv => whnf))
  rw [hx]
  refine Fn.frame [] (by rfl) (by exact trivial) (by rfl) (tally1 T (by omega) (fun c2 ok rs ht2 hrs hc h16 => ?_))
  rw [ht] at ht2
  obtain ⟨rfl, rfl⟩ : c = c2 ∧ true = ok := by injection ht2 with h1 h2; exact ⟨h1, h2⟩
  have hp := u16s_pl hrs
  have hrl : rs.length = 12 := by rw [u16s_len hrs, hc]
  by_cases qb : b < 0
  · have d3 : decide (b < 0) = true := decide_eq_true qb
    rw [if_pos qb] at hK2 hK3
    obtain ⟨u, hu⟩ : ∃ u, c[r * 2 + 1]? = some u := ⟨_, List.getElem?_eq_getElem (by omega)⟩
    have hu16 := h16 u (List.mem_of_getElem? hu)
    have g1 : rs[0 + (r : Int).toNat * Tryd.prog.types[91].size + Int.toNat 1 * Tryd.prog.types[90].size]? = some (.int .u16 u) := by rw [s91, s90, Int.toNat_natCast, Nat.zero_add]; exact u16s_get hrs hu
    have hf : IntKind.i64.wrap (IntKind.i64.wrap (0 - IntKind.i64.wrap b) + IntKind.i64.wrap (u : Int)) = ((b.natAbs + u : Nat) : Int) := by
      simp (disch := omega) only [i64w]; omega
    conv => whnf
    repeat' ((first | (with_reducible first | refine y'b ‹_› ?_ | refine y'3 ?_) | ((with_reducible refine y'n ?_ ?_); (· first | assumption | exact decide_eq_true (by omega) | decide +kernel)) | (with_reducible first | refine y'5 ‹_› ?_ | refine y'6 ‹_› ?_) | ((with_reducible apply y'o); (· first | exact g0 | exact g1 | exact g2)) | (with_reducible first | refine y'n (st12 ‹_›) ?_ | refine y't (store12 ‹_›) ?_) | fail) <;> (conv => whnf))
    rw [hf]
    by_cases q3 : 65535 < b.natAbs + u
    · have hk := hK2 u (by omega) (by omega) hu q3
      have d4 : decide (((b.natAbs + u : Nat) : Int) > 65535) = true := decide_eq_true (by omega)
      conv => whnf
      repeat' ((first | (with_reducible refine y'b ‹_› ?_) | fail) <;> (conv => whnf))
      exact keepOf (v₀ := .t [.a (.str ByteArray.empty), .a (.int .i64 101)]) [] [] rfl trivial rfl hk
    · have hk := hK3 u (by omega) (by omega) hu (by omega)
      have d4 : decide (((b.natAbs + u : Nat) : Int) > 65535) = false := decide_eq_false (by omega)
      conv => whnf
      repeat' ((first | (with_reducible first | refine y'b ‹_› ?_ | refine y'3 ?_) | ((with_reducible refine y'n ?_ ?_); (· first | assumption | exact decide_eq_true (by omega) | decide +kernel)) | fail) <;> (conv => whnf))
      rw [u16w (show b.natAbs + u < 65536 by omega)]
      refine y'n (set_ok (r := r) (w := 1) hrl (by omega) (by omega)) ?_
      conv => whnf
      refine y'f (set16 (r := r) (x := b.natAbs + u) (w := 1) hrs hc (by omega) (by omega)) (fun rs2 hrs2 => ?_)
      have hp2 := u16s_pl hrs2
      conv => whnf
      skip
      refine Fn.frame [0] (by rfl) (by exact ⟨ren_pl hp2 _ _ _, trivial⟩) (by simp [nodupb, V.okb, A.okb, Ob.okb, hp2.2]) (told1 _ rs2 false hrs2 (by rw [List.length_set]; exact hc) (set_lt h16 (by omega)) ?_)
      conv => whnf
      repeat' ((first | (with_reducible refine y'6 ‹_› ?_) | fail) <;> (conv => whnf))
      exact keepOf (v₀ := .t [.a (.str (bs (toldP (c.set (r * 2 + 1) (b.natAbs + u))))), .a (.int .i64 0)]) [] [] rfl trivial rfl hk
  · have d3 : decide (b < 0) = false := decide_eq_false qb
    rw [if_neg qb] at hK2 hK3
    obtain ⟨u, hu⟩ : ∃ u, c[r * 2 + 0]? = some u := ⟨_, List.getElem?_eq_getElem (by omega)⟩
    have hu16 := h16 u (List.mem_of_getElem? hu)
    have g1 : rs[0 + (r : Int).toNat * Tryd.prog.types[91].size + Int.toNat 0 * Tryd.prog.types[90].size]? = some (.int .u16 u) := by rw [s91, s90, Int.toNat_natCast, Nat.zero_add]; exact u16s_get hrs hu
    have hf : IntKind.i64.wrap (IntKind.i64.wrap b + IntKind.i64.wrap (u : Int)) = ((b.natAbs + u : Nat) : Int) := by
      simp (disch := omega) only [i64w]; omega
    conv => whnf
    repeat' ((first | (with_reducible first | refine y'b ‹_› ?_ | refine y'3 ?_) | ((with_reducible refine y'n ?_ ?_); (· first | assumption | exact decide_eq_true (by omega) | decide +kernel)) | (with_reducible first | refine y'5 ‹_› ?_ | refine y'6 ‹_› ?_) | ((with_reducible apply y'o); (· first | exact g0 | exact g1 | exact g2)) | (with_reducible first | refine y'n (st12 ‹_›) ?_ | refine y't (store12 ‹_›) ?_) | fail) <;> (conv => whnf))
    rw [hf]
    by_cases q3 : 65535 < b.natAbs + u
    · have hk := hK2 u (by omega) (by omega) hu q3
      have d4 : decide (((b.natAbs + u : Nat) : Int) > 65535) = true := decide_eq_true (by omega)
      conv => whnf
      repeat' ((first | (with_reducible refine y'b ‹_› ?_) | fail) <;> (conv => whnf))
      exact keepOf (v₀ := .t [.a (.str ByteArray.empty), .a (.int .i64 101)]) [] [] rfl trivial rfl hk
    · have hk := hK3 u (by omega) (by omega) hu (by omega)
      have d4 : decide (((b.natAbs + u : Nat) : Int) > 65535) = false := decide_eq_false (by omega)
      conv => whnf
      repeat' ((first | (with_reducible first | refine y'b ‹_› ?_ | refine y'3 ?_) | ((with_reducible refine y'n ?_ ?_); (· first | assumption | exact decide_eq_true (by omega) | decide +kernel)) | fail) <;> (conv => whnf))
      rw [u16w (show b.natAbs + u < 65536 by omega)]
      refine y'n (set_ok (r := r) (w := 0) hrl (by omega) (by omega)) ?_
      conv => whnf
      refine y'f (set16 (r := r) (x := b.natAbs + u) (w := 0) hrs hc (by omega) (by omega)) (fun rs2 hrs2 => ?_)
      have hp2 := u16s_pl hrs2
      conv => whnf
      skip
      refine Fn.frame [0] (by rfl) (by exact ⟨ren_pl hp2 _ _ _, trivial⟩) (by simp [nodupb, V.okb, A.okb, Ob.okb, hp2.2]) (told1 _ rs2 false hrs2 (by rw [List.length_set]; exact hc) (set_lt h16 (by omega)) ?_)
      conv => whnf
      repeat' ((first | (with_reducible refine y'6 ‹_› ?_) | fail) <;> (conv => whnf))
      exact keepOf (v₀ := .t [.a (.str (bs (toldP (c.set (r * 2 + 0) (b.natAbs + u))))), .a (.int .i64 0)]) [] [] rfl trivial rfl hk
end
end Go.Proofs.YtimddbgnaeeggaaDoor.KD
