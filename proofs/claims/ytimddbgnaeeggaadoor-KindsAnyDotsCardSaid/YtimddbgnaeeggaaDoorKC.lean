import Derived.Test.YtimddbgnaeeggaaDoorKR
namespace Go.Proofs.YtimddbgnaeeggaaDoor.KD
open Go.Eng
set_option maxRecDepth 100000
/-! ### Counts. -/
theorem ren_fv2 {l : List A} {L : List UInt8} (e : l = u8s L) (δ δ' : Nat → Nat) (ty : TypeId) (mk : Bool) : some (Ob.cells (l.map (A.ren δ')) ty mk) = some ((Ob.cells l ty mk).ren δ) := by
  subst e; simp [Ob.ren]
theorem forceH_of {H : Hp} {K : Hp → Prop} (h : K H) : forceH H K := by rw [forceH_eq]; exact h
/-- Rows of two-byte numbers. -/
@[irreducible] def u16s (l : List Nat) : List A := l.map fun (n : Nat) => A.int .u16 (n : Int)
theorem u16s_pl {rs : List A} {l : List Nat} (h : rs = u16s l) : Pl rs := by
  subst h
  refine ⟨fun δ => by simp [u16s, A.ren], fun n => ?_⟩
  rw [List.all_eq_true]
  intro x hx
  unfold u16s at hx
  obtain ⟨y, _, rfl⟩ := List.mem_map.1 hx
  rfl
theorem u16s_get {rs : List A} {l : List Nat} (h : rs = u16s l) {i x : Nat} (hx : l[i]? = some x) : rs[i]? = some (.int .u16 x) := by subst h; simp [u16s, hx]
theorem u16s_len {rs : List A} {l : List Nat} (h : rs = u16s l) : rs.length = l.length := by subst h; simp [u16s]
theorem u16w {x : Nat} (h : x < 65536) : IntKind.u16.wrap (x : Int) = (x : Int) := by
  simp only [IntKind.wrap, IntKind.signed, IntKind.bits]
  simp
  omega
theorem or16_0 {u d : Nat} (hu : u < 65536) (hd : d < 65536) : (bitx .or .u16 (u : Int) (d : Int) == 0) = decide (u = 0 ∧ d = 0) := by
  have e : bitx .or .u16 (u : Int) (d : Int) = ((u ||| d : Nat) : Int) := by
    unfold bitx
    simp only
    have e2 : (BitVec.ofInt IntKind.u16.bits (u : Int)).toNat = u := by
      show (BitVec.ofInt 16 _).toNat = _
      rw [BitVec.toNat_ofInt]; omega
    have e3 : (BitVec.ofInt IntKind.u16.bits (d : Int)).toNat = d := by
      show (BitVec.ofInt 16 _).toNat = _
      rw [BitVec.toNat_ofInt]; omega
    rw [BitVec.toNat_or, e2, e3]
    have h3 : u ||| d < 2 ^ 16 := Nat.or_lt_two_pow (by omega) (by omega)
    exact u16w (by omega)
  rw [e]
  have h4 : u ||| d = 0 ↔ u = 0 ∧ d = 0 := Nat.or_eq_zero_iff
  by_cases h : u = 0 ∧ d = 0
  · rw [h4.2 h, decide_eq_true h]; rfl
  · rw [decide_eq_false h]
    have : u ||| d ≠ 0 := fun h5 => h (h4.1 h5)
    simp [this]
theorem s93 : Tryd.prog.types[93].size = 12 := rfl
theorem len12 {rs : List A} (h : rs.length = 12) : decide (0 + Tryd.prog.types[93].size ≤ rs.length) = true := by rw [s93, h]; rfl
theorem whole12 {rs : List A} (h : rs.length = 12) : List.drop 0 (List.take (0 + Tryd.prog.types[93].size) rs) = rs := by
  rw [s93, List.drop_zero, List.take_of_length_le (by omega)]
theorem store_all {l m : List A} (h : m.length = l.length) : storeL l 0 m = m := by
  rw [storeL_row _ _ _ (by omega)]
  simp [h]
/-- A replica's counts are laid. -/
def upd (c : List Nat) (i u d : Nat) : List Nat := c.take (i * 2) ++ [u, d] ++ c.drop (i * 2 + 2)
theorem upd_len {c : List Nat} {i : Nat} (u d : Nat) (h : i * 2 + 2 ≤ c.length) : (upd c i u d).length = c.length := by simp [upd]; omega
theorem upd_lt {c : List Nat} {i u d : Nat} (h : ∀ n ∈ c, n < 65536) (hu : u < 65536) (hd : d < 65536) : ∀ n ∈ upd c i u d, n < 65536 := by
  intro n hn
  unfold upd at hn
  rw [List.mem_append, List.mem_append] at hn
  rcases hn with (hn | hn) | hn
  · exact h n (List.mem_of_mem_take hn)
  · simp only [List.mem_cons, List.not_mem_nil, or_false] at hn
    rcases hn with rfl | rfl <;> assumption
  · exact h n (List.mem_of_mem_drop hn)
theorem s91 : Tryd.prog.types[91].size = 2 := rfl
theorem put_ok {rs : List A} {u d : A} {i : Nat} (h : rs.length = 12) (hi : i < 6) : ([u, d].length == Tryd.prog.types[91].size && decide (0 + (i : Int).toNat * Tryd.prog.types[91].size + [u, d].length ≤ rs.length)) = true := by
  rw [s91, h, Int.toNat_natCast]
  show decide (0 + i * 2 + 2 ≤ 12) = true
  exact decide_eq_true (by omega)
theorem put16 {rs : List A} {c : List Nat} {i u d : Nat} (h : rs = u16s c) (hc : c.length = 12) (hi : i < 6) : storeL rs (0 + (i : Int).toNat * Tryd.prog.types[91].size) [.int .u16 (u : Int), .int .u16 (d : Int)] = u16s (upd c i u d) := by
  have hl : rs.length = 12 := by rw [u16s_len h, hc]
  rw [s91, Int.toNat_natCast, storeL_row _ _ _ (by rw [hl]; simp; omega)]
  subst h
  unfold upd u16s
  simp [List.map_take, List.map_drop]
theorem pick_ok {rs : List A} {i : Nat} (h : rs.length = 12) (hi : i < 6) : decide (0 + (i : Int).toNat * Tryd.prog.types[91].size + Tryd.prog.types[91].size ≤ rs.length) = true := by
  rw [s91, h, Int.toNat_natCast]
  exact decide_eq_true (by omega)
theorem pick16 {rs : List A} {c : List Nat} {i u d : Nat} (h : rs = u16s c) (hu : c[i * 2]? = some u) (hd : c[i * 2 + 1]? = some d) : List.drop (0 + (i : Int).toNat * Tryd.prog.types[91].size) (List.take (0 + (i : Int).toNat * Tryd.prog.types[91].size + Tryd.prog.types[91].size) rs) = [.int .u16 (u : Int), .int .u16 (d : Int)] := by
  rw [s91, Int.toNat_natCast, Nat.zero_add]
  have gu := u16s_get h hu
  have gd := u16s_get h hd
  rw [List.drop_take, Nat.add_sub_cancel_left]
  have e1 : rs.drop (i * 2) = .int .u16 (u : Int) :: .int .u16 (d : Int) :: rs.drop (i * 2 + 2) := by
    obtain ⟨h1, h2⟩ := List.getElem?_eq_some_iff.1 gu
    obtain ⟨h3, h4⟩ := List.getElem?_eq_some_iff.1 gd
    rw [List.drop_eq_getElem_cons h1, List.drop_eq_getElem_cons h3, h2, h4]
  rw [e1]; rfl
/-- Counts out of bytes, behind a replica. -/
def tal : List UInt8 → Nat → List Nat → List Nat × Bool
  | i :: a :: b :: d :: e :: R, last, c => if i.toNat ≤ last ∨ 5 < i.toNat ∨ (hiN [a, b] = 0 ∧ hiN [d, e] = 0) then (c, false) else tal R i.toNat (upd c i.toNat (hiN [a, b]) (hiN [d, e]))
  | _, _, c => (c, true)
def zeros : List Nat := List.replicate 12 0
def tallyP (T : List UInt8) : List Nat × Bool := if T.length % 5 = 0 then tal T 0 zeros else (zeros, false)
section
variable {ro : Addr → A → Prop}
set_option maxHeartbeats 400000 in
theorem rleft (L : List UInt8) (a : Nat) (e : Int) (ha : a ≤ L.length) (hL : L.length ≤ 140737488351232) {K : V → Hp → Prop}
    (hK : K (.a (.int .i64 ((L.length - a : Nat) : Int))) [.cells [.str (bs L), .int .i64 (a : Int), .int .i64 e] 121 false]) :
    Go.Eng.Fn Tryd.prog ro 84 [.a (.ptr 0 0)] [.cells [.str (bs L), .int .i64 (a : Int), .int .i64 e] 121 false] K := by
  have hsz := bs_size L
  generalize bs L = s at *
  have e1 : IntKind.i64.wrap ((s.size : Int) - (a : Int)) = ((L.length - a : Nat) : Int) := by rw [i64w (by omega) (by omega)]; omega
  refine Fn.weak ?_
  refine Fn.of 1 h84 rfl Tryd.func84 rfl (Nat.le_of_ble_eq_true rfl) ?_
  conv => whnf
  repeat' ((first | ((with_reducible refine y'r ?_ ?_); (· decide +kernel)) | ((with_reducible refine y'g ?_ ?_); (· exact ⟨_, rfl⟩)) | fail) <;> (conv => whnf))
  rw [e1]
  exact keepOf (v₀ := .a (.int .i64 ((L.length - a : Nat) : Int))) [.cells [.str s, .int .i64 (a : Int), .int .i64 e] 121 false] [0] rfl ⟨rfl, trivial⟩ rfl hK
set_option maxHeartbeats 2000000 in
theorem tally1 (T : List UInt8) (hT : T.length ≤ 1000) {K : V → Hp → Prop}
    (hK : ∀ c ok rs, tallyP T = (c, ok) → rs = u16s c → c.length = 12 → (∀ n ∈ c, n < 65536) → K (.t [.g rs, .a (.bool ok)]) []) :
    Go.Eng.Fn Tryd.prog ro 52 [.a (.str (bs T))] [] K := by
  have hsz := bs_size T
  have hz12 : ([.int .u16 0, .int .u16 0, .int .u16 0, .int .u16 0, .int .u16 0, .int .u16 0, .int .u16 0, .int .u16 0, .int .u16 0, .int .u16 0, .int .u16 0, .int .u16 0] : List A) = u16s zeros := by unfold u16s; rfl
  have em : (T.length : Int).tmod 5 = ((T.length % 5 : Nat) : Int) := tmodN T.length 5
  refine Fn.weak ?_
  refine Fn.of_code (gOf []) Tryd.func52 rfl (Nat.le_of_ble_eq_true rfl) ?_
  obtain ⟨s, hs⟩ : ∃ s, s = bs T := ⟨_, rfl⟩
  rw [← hs] at hsz ⊢
  by_cases h5 : T.length % 5 = 0
  · have c5 : ((T.length : Int).tmod 5 != 0) = false := by rw [em, h5]; rfl
    conv => whnf
    skip
    rw [hsz]
    conv => whnf
    repeat' ((first | (with_reducible refine y'b ‹_› ?_) | fail) <;> (conv => whnf))
    rw [hs]
    refine Fn.frame [] (by rfl) (by exact trivial) (by rfl) (newReader T ?_)
    conv => whnf
    skip
    refine loopx_of (fun m F H => ∃ (a last : Nat) (c : List Nat) (rs : List A), a ≤ T.length ∧ (T.length - a) % 5 = 0 ∧ last < 256 ∧ m = T.length - a ∧ rs = u16s c ∧ c.length = 12 ∧ (∀ n ∈ c, n < 65536) ∧ tal (T.drop a) last c = tallyP T ∧ F = [(2, .a (.ptr 0 0)), (4, .a (.ptr 1 0)), (5, .a (.int .u8 last)), (6, .a (.ptr 2 0))] ∧ H = [.cells [.int .u16 0, .int .u16 0, .int .u16 0, .int .u16 0, .int .u16 0, .int .u16 0, .int .u16 0, .int .u16 0, .int .u16 0, .int .u16 0, .int .u16 0, .int .u16 0] 93 false, .cells rs 93 false, .cells [.str (bs T), .int .i64 a, .int .i64 0] 121 false]) T.length ?_ ?_
    · exact Into.weak [0, 1, 2] [(2, .a (.ptr 0 0)), (4, .a (.ptr 1 0)), (5, .a (.int .u8 (0 : Nat))), (6, .a (.ptr 2 0))] [.cells [.int .u16 0, .int .u16 0, .int .u16 0, .int .u16 0, .int .u16 0, .int .u16 0, .int .u16 0, .int .u16 0, .int .u16 0, .int .u16 0, .int .u16 0, .int .u16 0] 93 false, .cells [.int .u16 0, .int .u16 0, .int .u16 0, .int .u16 0, .int .u16 0, .int .u16 0, .int .u16 0, .int .u16 0, .int .u16 0, .int .u16 0, .int .u16 0, .int .u16 0] 93 false, .cells [.str (bs T), .int .i64 (0 : Nat), .int .i64 0] 121 false] ⟨0, 0, zeros, _, Nat.zero_le _, h5, by decide, rfl, hz12, rfl, by decide, by rw [List.drop_zero]; unfold tallyP; rw [if_pos h5], rfl, rfl⟩ ⟨rfl, rfl, rfl, rfl, trivial⟩ ⟨rfl, rfl, rfl, trivial⟩ rfl
    · rintro m F H ⟨a, last, c, rs, ha, h5a, hlast, rfl, hrs, hc, hc16, htal, rfl, rfl⟩
      have hp := u16s_pl hrs
      have hrl : rs.length = 12 := by rw [u16s_len hrs, hc]
      conv => whnf
      skip
      refine Fn.frame [2] (by rfl) (by exact ⟨rfl, trivial⟩) (by rfl) (rleft T a 0 ha (by omega) ?_)
      conv => whnf
      repeat' ((first | (with_reducible refine y'5 ‹_› ?_) | fail) <;> (conv => whnf))
      refine y'c (fun h => ?_) (fun h => ?_)
      · have h := of_decide_eq_true h
        have hlt : a + 5 ≤ T.length := by omega
        obtain ⟨i, b1, b2, b3, b4, R, hD⟩ : ∃ i b1 b2 b3 b4 R, T.drop a = i :: b1 :: b2 :: b3 :: b4 :: R := by
          have hl : (T.drop a).length = T.length - a := List.length_drop
          match hh : T.drop a with
          | i :: b1 :: b2 :: b3 :: b4 :: R => exact ⟨i, b1, b2, b3, b4, R, rfl⟩
          | [] | [_] | [_, _] | [_, _, _] | [_, _, _, _] => rw [hh] at hl; simp at hl; omega
        have hD1 : T.drop (a + 1) = b1 :: b2 :: b3 :: b4 :: R := by rw [← List.drop_drop, hD]; rfl
        have hD3 : T.drop (a + 1 + 2) = b3 :: b4 :: R := by rw [← List.drop_drop, hD1]; rfl
        have hD5 : T.drop (a + 1 + 2 + 2) = R := by rw [← List.drop_drop, hD3]; rfl
        conv => whnf
        skip
        refine Fn.frame [2] (by rfl) (by exact ⟨rfl, trivial⟩) (by rfl) (rbyte T a 0 ha (by omega) (fun t ok a' e' ht => ?_))
        rw [tk_ok (by omega), hD] at ht
        obtain ⟨rfl, rfl, rfl, rfl⟩ : [i] = t ∧ true = ok ∧ a + 1 = a' ∧ 0 = e' := by simpa using ht
        have hi1 : (UInt8.ofNat (hiN [i])).toNat = i.toNat := by rw [hiN_cons, hiN_nil]; simp
        rw [hi1]
        conv => whnf
        repeat' ((first | (with_reducible refine y'5 ‹_› ?_) | fail) <;> (conv => whnf))
        refine Fn.frame [2] (by rfl) (by exact ⟨rfl, trivial⟩) (by rfl) (rfixed T (a + 1) 2 0 (by omega) (by omega) (by decide) (by decide) (fun t ok a' e' ht => ?_))
        rw [tk_ok (by omega), hD1] at ht
        obtain ⟨rfl, rfl, rfl, rfl⟩ : [b1, b2] = t ∧ true = ok ∧ a + 1 + 2 = a' ∧ 0 = e' := by simpa using ht
        obtain ⟨u, hu⟩ : ∃ u, u = hiN [b1, b2] := ⟨_, rfl⟩
        have hu16 : u < 65536 := by rw [hu]; exact hiN_lt _
        rw [← hu]
        conv => whnf
        repeat' ((first | (with_reducible refine y'5 ‹_› ?_) | fail) <;> (conv => whnf))
        refine Fn.frame [2] (by rfl) (by exact ⟨rfl, trivial⟩) (by rfl) (rfixed T (a + 1 + 2) 2 0 (by omega) (by omega) (by decide) (by decide) (fun t ok a' e' ht => ?_))
        rw [tk_ok (by omega), hD3] at ht
        obtain ⟨rfl, rfl, rfl, rfl⟩ : [b3, b4] = t ∧ true = ok ∧ a + 1 + 2 + 2 = a' ∧ 0 = e' := by simpa using ht
        obtain ⟨d, hd⟩ : ∃ d, d = hiN [b3, b4] := ⟨_, rfl⟩
        have hd16 : d < 65536 := by rw [hd]; exact hiN_lt _
        rw [← hd]
        conv => whnf
        repeat' ((first | (with_reducible refine y'5 ‹_› ?_) | fail) <;> (conv => whnf))
        rw [u16w hu16, u16w hd16]
        have hil : i.toNat < 256 := i.toNat_lt
        have hor := or16_0 hu16 hd16
        have htl : tal (T.drop a) last c = if i.toNat ≤ last ∨ 5 < i.toNat ∨ (hiN [b1, b2] = 0 ∧ hiN [b3, b4] = 0) then (c, false) else tal R i.toNat (upd c i.toNat (hiN [b1, b2]) (hiN [b3, b4])) := by rw [hD]; rfl
        rw [← hu, ← hd, htal] at htl
        by_cases q1 : i.toNat ≤ last
        · have c6 : decide ((i.toNat : Int) ≤ (last : Int)) = true := decide_eq_true (by omega)
          rw [if_pos (.inl q1)] at htl
          have hk := hK c false rs htl hrs hc hc16
          conv => whnf
          repeat' ((first | (with_reducible refine y'b ‹_› ?_) | fail) <;> (conv => whnf))
          refine y'n (len12 hrl) ?_
          conv => whnf
          refine y't (whole12 hrl) ?_
          conv => whnf
          skip
          refine y'n (by rw [hrl]; rfl) ?_
          conv => whnf
          refine y't (store_all hrl) ?_
          conv => whnf
          repeat' ((first | (with_reducible refine y'5 ‹_› ?_) | fail) <;> (conv => whnf))
          refine y'n (len12 hrl) ?_
          conv => whnf
          rw [whole12 hrl]
          exact keepOf (v₀ := .t [.g rs, .a (.bool false)]) [] [] (by simp [V.ren, E.ren, A.ren, hp.1]) trivial (by simp [nodupb, baseb, frmOk, V.okb, E.okb, A.okb, hp.2]) hk
        · have c6 : decide ((i.toNat : Int) ≤ (last : Int)) = false := decide_eq_false (by omega)
          by_cases q2 : 5 < i.toNat
          · have c7 : decide ((i.toNat : Int) > 5) = true := decide_eq_true (by omega)
            rw [if_pos (.inr (.inl q2))] at htl
            have hk := hK c false rs htl hrs hc hc16
            conv => whnf
            repeat' ((first | (with_reducible refine y'b ‹_› ?_) | fail) <;> (conv => whnf))
            refine y'n (len12 hrl) ?_
            conv => whnf
            refine y't (whole12 hrl) ?_
            conv => whnf
            skip
            refine y'n (by rw [hrl]; rfl) ?_
            conv => whnf
            refine y't (store_all hrl) ?_
            conv => whnf
            repeat' ((first | (with_reducible refine y'5 ‹_› ?_) | fail) <;> (conv => whnf))
            refine y'n (len12 hrl) ?_
            conv => whnf
            rw [whole12 hrl]
            exact keepOf (v₀ := .t [.g rs, .a (.bool false)]) [] [] (by simp [V.ren, E.ren, A.ren, hp.1]) trivial (by simp [nodupb, baseb, frmOk, V.okb, E.okb, A.okb, hp.2]) hk
          · have c7 : decide ((i.toNat : Int) > 5) = false := decide_eq_false (by omega)
            by_cases q3 : u = 0 ∧ d = 0
            · have c8 : (bitx .or .u16 (u : Int) (d : Int) == 0) = true := by rw [hor]; exact decide_eq_true q3
              rw [if_pos (.inr (.inr q3))] at htl
              have hk := hK c false rs htl hrs hc hc16
              conv => whnf
              repeat' ((first | (with_reducible refine y'b ‹_› ?_) | fail) <;> (conv => whnf))
              refine y'n (len12 hrl) ?_
              conv => whnf
              refine y't (whole12 hrl) ?_
              conv => whnf
              skip
              refine y'n (by rw [hrl]; rfl) ?_
              conv => whnf
              refine y't (store_all hrl) ?_
              conv => whnf
              repeat' ((first | (with_reducible refine y'5 ‹_› ?_) | fail) <;> (conv => whnf))
              refine y'n (len12 hrl) ?_
              conv => whnf
              rw [whole12 hrl]
              exact keepOf (v₀ := .t [.g rs, .a (.bool false)]) [] [] (by simp [V.ren, E.ren, A.ren, hp.1]) trivial (by simp [nodupb, baseb, frmOk, V.okb, E.okb, A.okb, hp.2]) hk
            · have c8 : (bitx .or .u16 (u : Int) (d : Int) == 0) = false := by rw [hor]; exact decide_eq_false q3
              rw [if_neg (by intro h; rcases h with h | h | h; exact q1 h; exact q2 h; exact q3 h)] at htl
              conv => whnf
              repeat' ((first | (with_reducible first | refine y'b ‹_› ?_ | refine y'3 ?_) | ((with_reducible refine y'n ?_ ?_); (· first | assumption | exact decide_eq_true (by omega) | decide +kernel)) | fail) <;> (conv => whnf))
              refine y'n (put_ok hrl (by omega)) ?_
              conv => whnf
              refine y'f (put16 hrs hc (by omega)) (fun rs2 hrs2 => ?_)
              conv => whnf
              skip
              have hp2 := u16s_pl hrs2
              exact ⟨T.length - (a + 1 + 2 + 2), by omega, Into.weak [0, 1, 2] [(2, .a (.ptr 0 0)), (4, .a (.ptr 1 0)), (5, .a (.int .u8 (i.toNat : Nat))), (6, .a (.ptr 2 0))] [.cells [.int .u16 0, .int .u16 0, .int .u16 0, .int .u16 0, .int .u16 0, .int .u16 0, .int .u16 0, .int .u16 0, .int .u16 0, .int .u16 0, .int .u16 0, .int .u16 0] 93 false, .cells rs2 93 false, .cells [.str (bs T), .int .i64 (a + 1 + 2 + 2 : Nat), .int .i64 0] 121 false] ⟨a + 1 + 2 + 2, i.toNat, upd c i.toNat u d, rs2, by omega, by omega, hil, rfl, hrs2, by rw [upd_len _ _ (by omega)]; exact hc, upd_lt hc16 hu16 hd16, by rw [hD5]; exact htl.symm, rfl, rfl⟩ ⟨rfl, rfl, rfl, rfl, trivial⟩ ⟨rfl, ren_pl hp2 _ _ _, rfl, trivial⟩ (by simp [nodupb, baseb, Ob.okb, frmOk, V.okb, A.okb, hp2.2] <;> decide)⟩
      · have h := of_decide_eq_false h
        have hal : a = T.length := by omega
        rw [hal, List.drop_length] at htal
        have hk := hK c true rs htal.symm hrs hc hc16
        conv => whnf
        skip
        refine y'n (len12 hrl) ?_
        conv => whnf
        refine y't (whole12 hrl) ?_
        conv => whnf
        skip
        refine y'n (by rw [hrl]; rfl) ?_
        conv => whnf
        refine y't (store_all hrl) ?_
        conv => whnf
        repeat' ((first | (with_reducible refine y'5 ‹_› ?_) | fail) <;> (conv => whnf))
        refine y'n (len12 hrl) ?_
        conv => whnf
        rw [whole12 hrl]
        exact keepOf (v₀ := .t [.g rs, .a (.bool true)]) [] [] (by simp [V.ren, E.ren, A.ren, hp.1]) trivial (by simp [nodupb, baseb, frmOk, V.okb, E.okb, A.okb, hp.2]) hk
  · have c5 : ((T.length : Int).tmod 5 != 0) = true := by rw [em]; simp; omega
    have hk := hK zeros false _ (by unfold tallyP; rw [if_neg h5]) hz12 rfl (by decide)
    conv => whnf
    skip
    rw [hsz]
    conv => whnf
    repeat' ((first | (with_reducible refine y'b ‹_› ?_) | fail) <;> (conv => whnf))
    exact keepOf (v₀ := .t [.g [.int .u16 0, .int .u16 0, .int .u16 0, .int .u16 0, .int .u16 0, .int .u16 0, .int .u16 0, .int .u16 0, .int .u16 0, .int .u16 0, .int .u16 0, .int .u16 0], .a (.bool false)]) [] [] rfl trivial rfl hk
/-- What counts are as bytes. -/
def ent (c : List Nat) (i : Nat) : List UInt8 := if c.getD (i * 2) 0 = 0 ∧ c.getD (i * 2 + 1) 0 = 0 then [] else UInt8.ofNat i :: (be 2 (c.getD (i * 2) 0) ++ be 2 (c.getD (i * 2 + 1) 0))
theorem ent_zero {c : List Nat} {i u d : Nat} (hu : c[i * 2]? = some u) (hd : c[i * 2 + 1]? = some d) (h : u = 0 ∧ d = 0) : ent c i = [] := by
  unfold ent
  rw [if_pos (by rw [List.getD_eq_getElem?_getD, List.getD_eq_getElem?_getD, hu, hd]; exact h)]
theorem ent_some {c : List Nat} {i u d : Nat} (hu : c[i * 2]? = some u) (hd : c[i * 2 + 1]? = some d) (h : ¬ (u = 0 ∧ d = 0)) : ent c i = UInt8.ofNat i :: (be 2 u ++ be 2 d) := by
  unfold ent
  rw [if_neg (by rw [List.getD_eq_getElem?_getD, List.getD_eq_getElem?_getD, hu, hd]; exact h), List.getD_eq_getElem?_getD, List.getD_eq_getElem?_getD, hu, hd]
  rfl
theorem not_zero {u d : Nat} (h : ¬ (u = 0 ∧ d = 0)) : (decide ((u : Int) = 0) && (decide ((d : Int) = 0) && true)) = false := by
  rw [Bool.and_true, ← Bool.decide_and]
  exact decide_eq_false (fun hh => h ⟨by omega, by omega⟩)
def encC (c : List Nat) : Nat → List UInt8
  | 0 => []
  | i + 1 => encC c i ++ ent c i
theorem ent_len (c : List Nat) (i : Nat) : (ent c i).length ≤ 5 := by
  unfold ent
  split
  · decide
  · simp [be_length]
theorem encC_len (c : List Nat) : ∀ i, (encC c i).length ≤ 5 * i
  | 0 => by simp [encC]
  | i + 1 => by
    have := encC_len c i
    have := ent_len c i
    simp [encC]; omega
def toldP (c : List Nat) : List UInt8 := 3 :: encC c 6
set_option maxHeartbeats 2000000 in
theorem told1 (c : List Nat) (rs : List A) (mr : Bool) (hrs : rs = u16s c) (hc : c.length = 12) (h16 : ∀ n ∈ c, n < 65536) {K : V → Hp → Prop}
    (hK : K (.a (.str (bs (toldP c)))) [.cells rs 93 mr]) :
    Go.Eng.Fn Tryd.prog ro 58 [.a (.ptr 0 0)] [.cells rs 93 mr] K := by
  have hp := u16s_pl hrs
  have hrl : rs.length = 12 := by rw [u16s_len hrs, hc]
  refine Fn.weak ?_
  refine Fn.of 1 (cutAt [8, 9] h58) rfl Tryd.func58 rfl (Nat.le_of_ble_eq_true rfl) ?_
  conv => whnf
  skip
  refine Fn.frame [] (by rfl) (by exact trivial) (by rfl) (newWriter ?_)
  conv => whnf
  repeat' ((first | (with_reducible refine y'5 ‹_› ?_) | fail) <;> (conv => whnf))
  refine Fn.frame [1] (by rfl) (by exact ⟨rfl, trivial⟩) (by rfl) (wbyte0 3 (fun cs x cap hcs hcap => ?_))
  conv => whnf
  repeat' ((first | (with_reducible refine y'2 ‹_› ?_) | (with_reducible refine y'5 ‹_› ?_) | fail) <;> (conv => whnf))
  refine loopx_of (fun m F H => ∃ (i : Nat) (cs : List A) (x : List UInt8) (len cap : Nat) (mk : Bool), i ≤ 6 ∧ m = 6 - i ∧ cs = u8s ((3 :: encC c i) ++ x) ∧ len = (3 :: encC c i).length ∧ cap = len + x.length ∧ F = [(3, .a (.ptr 1 0)), (9, .a (.ptr 0 0)), (10, .a (.int .i64 i))] ∧ H = [.cells rs 93 mr, .cells [.slc 2 0 len cap] 146 false, .cells cs 5 mk]) 6 ?_ ?_
  · exact Into.weak [0, 1, 2] [(3, .a (.ptr 1 0)), (9, .a (.ptr 0 0)), (10, .a (.int .i64 (0 : Nat)))] [.cells rs 93 mr, .cells [.slc 2 0 1 cap] 146 false, .cells cs 5 false] ⟨0, cs, x, 1, cap, false, by omega, rfl, hcs, rfl, hcap, rfl, rfl⟩ ⟨rfl, rfl, rfl, trivial⟩ ⟨ren_pl hp _ _ _, rfl, ren_fv hcs _ _ _, trivial⟩ (by simp [nodupb, baseb, Ob.okb, frmOk, V.okb, A.okb, hp.2, all_fv hcs] <;> decide)
  · clear hcs hcap cs x cap
    rintro m F H ⟨i, cs, x, len, cap, mk, hi, rfl, hcs, hl, hcp, rfl, rfl⟩
    have hel := encC_len c i
    conv => whnf
    skip
    refine y'c (fun h => ?_) (fun h => ?_)
    · have hin : i < 6 := by have := of_decide_eq_true h; omega
      obtain ⟨u, hu⟩ : ∃ u, c[i * 2]? = some u := ⟨_, List.getElem?_eq_getElem (by omega)⟩
      obtain ⟨d, hd⟩ : ∃ d, c[i * 2 + 1]? = some d := ⟨_, List.getElem?_eq_getElem (by omega)⟩
      have hu16 := h16 u (List.mem_of_getElem? hu)
      have hd16 := h16 d (List.mem_of_getElem? hd)
      have hw : IntKind.i64.wrap (↑i + 1) = ((i + 1 : Nat) : Int) := by rw [i64w (by omega) (by omega)]; rfl
      conv => whnf
      repeat' ((first | ((with_reducible refine y'r ?_ ?_); (· decide +kernel)) | (with_reducible refine y'3 ?_) | ((with_reducible refine y'n ?_ ?_); (· first | assumption | exact decide_eq_true (by omega) | decide +kernel)) | fail) <;> (conv => whnf))
      refine y'n (pick_ok hrl hin) ?_
      conv => whnf
      refine y't (pick16 hrs hu hd) ?_
      conv => whnf
      repeat' ((first | ((with_reducible refine y'g ?_ ?_); (· exact ⟨_, rfl⟩)) | (with_reducible refine y'1 ‹_› ?_) | (with_reducible refine y'5 ‹_› ?_) | fail) <;> (conv => whnf))
      refine ⟨_, EqAgg.of rfl, ?_⟩
      conv => whnf
      skip
      by_cases q : u = 0 ∧ d = 0
      · refine y'q (by rw [decide_eq_true (show (u : Int) = 0 by omega), decide_eq_true (show (d : Int) = 0 by omega)]; rfl) ?_
        have he : 3 :: encC c (i + 1) = 3 :: encC c i := by
          show 3 :: (encC c i ++ ent c i) = _
          rw [ent_zero hu hd q, List.append_nil]
        conv => whnf
        skip
        exact ⟨6 - (i + 1), by omega, Into.weak [0, 1, 2] [(3, .a (.ptr 1 0)), (9, .a (.ptr 0 0)), (10, .a (.int .i64 ((i + 1 : Nat) : Int)))] [.cells rs 93 mr, .cells [.slc 2 0 len cap] 146 false, .cells cs 5 mk] ⟨i + 1, cs, x, len, cap, mk, by omega, rfl, by rw [he]; exact hcs, by rw [he]; exact hl, hcp, rfl, rfl⟩ ⟨rfl, rfl, congrArg (fun z => some (V.a (.int .i64 z))) hw, trivial⟩ ⟨ren_pl hp _ _ _, rfl, ren_fv hcs _ _ _, trivial⟩ (by simp [nodupb, baseb, Ob.okb, frmOk, V.okb, A.okb, hp.2, all_fv hcs] <;> decide)⟩
      refine y'p (by rw [not_zero q]; rfl) ?_
      have he : 3 :: encC c (i + 1) = (((3 :: encC c i) ++ [UInt8.ofNat i]) ++ be 2 u) ++ be 2 d := by
        show 3 :: (encC c i ++ ent c i) = _
        rw [ent_some hu hd q]; simp
      have hlen : (3 :: encC c i).length ≤ 100 := by rw [List.length_cons]; omega
      conv => whnf
      skip
      rw [wrap8, b8_ofNat]
      refine Fn.frame [1, 2] (by rfl) (by exact ⟨rfl, ren_fv hcs _ _ _, trivial⟩) (by simp [nodupb, V.okb, A.okb, Ob.okb, all_fv hcs] <;> decide) (wbyte (UInt8.ofNat i) (3 :: encC c i) x cs len cap mk hcs hl hcp (by omega) (fun H hW => ?_))
      conv => whnf
      skip
      refine forceH_of ?_
      conv => whnf
      skip
      refine cutx_of (fun F H => ∃ (cs : List A) (x : List UInt8) (len cap : Nat) (mk : Bool), cs = u8s (((3 :: encC c i) ++ [UInt8.ofNat i]) ++ x) ∧ len = ((3 :: encC c i) ++ [UInt8.ofNat i]).length ∧ cap = len + x.length ∧ F = [(3, .a (.ptr 1 0)), (9, .a (.ptr 0 0)), (10, .a (.int .i64 i)), (5, .a (.ptr 3 0))] ∧ H = [.cells rs 93 mr, .cells [.slc 2 0 len cap] 146 false, .cells cs 5 mk, .cells [.int .u16 (u : Int), .int .u16 (d : Int)] 91 false]) ?_ ?_
      · rcases hW with ⟨cs2, x2, len2, cap2, mk2, rfl, hcs2, hl2, hc2⟩ | ⟨cs2, os, x2, M, len2, cap2, mk2, mo, rfl, hcs2, hos, hl2, hc2⟩
        · exact Into.weak [0, 1, 2, 3] [(3, .a (.ptr 1 0)), (9, .a (.ptr 0 0)), (10, .a (.int .i64 i)), (5, .a (.ptr 3 0))] [.cells rs 93 mr, .cells [.slc 2 0 len2 cap2] 146 false, .cells cs2 5 mk2, .cells [.int .u16 (u : Int), .int .u16 (d : Int)] 91 false] ⟨cs2, x2, len2, cap2, mk2, hcs2, hl2, hc2, rfl, rfl⟩ ⟨rfl, rfl, rfl, rfl, trivial⟩ ⟨ren_pl hp _ _ _, rfl, ren_fv2 hcs2 _ _ _ _, rfl, trivial⟩ (by simp [nodupb, baseb, Ob.okb, frmOk, V.okb, A.okb, hp.2, all_fv hcs2] <;> decide)
        · exact Into.weak [0, 1, 4, 3] [(3, .a (.ptr 1 0)), (9, .a (.ptr 0 0)), (10, .a (.int .i64 i)), (5, .a (.ptr 3 0))] [.cells rs 93 mr, .cells [.slc 2 0 len2 cap2] 146 false, .cells cs2 5 mk2, .cells [.int .u16 (u : Int), .int .u16 (d : Int)] 91 false] ⟨cs2, x2, len2, cap2, mk2, hcs2, hl2, hc2, rfl, rfl⟩ ⟨rfl, rfl, rfl, rfl, trivial⟩ ⟨ren_pl hp _ _ _, rfl, ren_fv2 hcs2 _ _ _ _, rfl, trivial⟩ (by simp [nodupb, baseb, Ob.okb, frmOk, V.okb, A.okb, hp.2, all_fv hcs2] <;> decide)
      clear hW hcs hl hcp cs x len cap mk
      rintro F H ⟨cs, x, len, cap, mk, hcs, hl, hcp, rfl, rfl⟩
      conv => whnf
      skip
      rw [u64w, Nat.mod_eq_of_lt (show u < 18446744073709551616 by omega)]
      refine Fn.frame [1, 2] (by rfl) (by exact ⟨rfl, ren_fv hcs _ _ _, trivial⟩) (by simp [nodupb, V.okb, A.okb, Ob.okb, all_fv hcs] <;> decide) (wfixed u 2 (by decide) (by decide) (by omega) ((3 :: encC c i) ++ [UInt8.ofNat i]) x cs len cap mk hcs hl hcp (by rw [List.length_append]; simp only [List.length_singleton]; omega) (fun H hW => ?_))
      conv => whnf
      skip
      refine forceH_of ?_
      conv => whnf
      skip
      refine cutx_of (fun F H => ∃ (cs : List A) (x : List UInt8) (len cap : Nat) (mk : Bool), cs = u8s ((((3 :: encC c i) ++ [UInt8.ofNat i]) ++ be 2 u) ++ x) ∧ len = (((3 :: encC c i) ++ [UInt8.ofNat i]) ++ be 2 u).length ∧ cap = len + x.length ∧ F = [(3, .a (.ptr 1 0)), (9, .a (.ptr 0 0)), (10, .a (.int .i64 i)), (5, .a (.ptr 3 0))] ∧ H = [.cells rs 93 mr, .cells [.slc 2 0 len cap] 146 false, .cells cs 5 mk, .cells [.int .u16 (u : Int), .int .u16 (d : Int)] 91 false]) ?_ ?_
      · rcases hW with ⟨cs2, x2, len2, cap2, mk2, rfl, hcs2, hl2, hc2⟩ | ⟨cs2, os, x2, M, len2, cap2, mk2, mo, rfl, hcs2, hos, hl2, hc2⟩
        · exact Into.weak [0, 1, 2, 3] [(3, .a (.ptr 1 0)), (9, .a (.ptr 0 0)), (10, .a (.int .i64 i)), (5, .a (.ptr 3 0))] [.cells rs 93 mr, .cells [.slc 2 0 len2 cap2] 146 false, .cells cs2 5 mk2, .cells [.int .u16 (u : Int), .int .u16 (d : Int)] 91 false] ⟨cs2, x2, len2, cap2, mk2, hcs2, hl2, hc2, rfl, rfl⟩ ⟨rfl, rfl, rfl, rfl, trivial⟩ ⟨ren_pl hp _ _ _, rfl, ren_fv2 hcs2 _ _ _ _, rfl, trivial⟩ (by simp [nodupb, baseb, Ob.okb, frmOk, V.okb, A.okb, hp.2, all_fv hcs2] <;> decide)
        · exact Into.weak [0, 1, 4, 3] [(3, .a (.ptr 1 0)), (9, .a (.ptr 0 0)), (10, .a (.int .i64 i)), (5, .a (.ptr 3 0))] [.cells rs 93 mr, .cells [.slc 2 0 len2 cap2] 146 false, .cells cs2 5 mk2, .cells [.int .u16 (u : Int), .int .u16 (d : Int)] 91 false] ⟨cs2, x2, len2, cap2, mk2, hcs2, hl2, hc2, rfl, rfl⟩ ⟨rfl, rfl, rfl, rfl, trivial⟩ ⟨ren_pl hp _ _ _, rfl, ren_fv2 hcs2 _ _ _ _, rfl, trivial⟩ (by simp [nodupb, baseb, Ob.okb, frmOk, V.okb, A.okb, hp.2, all_fv hcs2] <;> decide)
      clear hW hcs hl hcp cs x len cap mk
      rintro F H ⟨cs, x, len, cap, mk, hcs, hl, hcp, rfl, rfl⟩
      conv => whnf
      skip
      rw [u64w, Nat.mod_eq_of_lt (show d < 18446744073709551616 by omega)]
      refine Fn.frame [1, 2] (by rfl) (by exact ⟨rfl, ren_fv hcs _ _ _, trivial⟩) (by simp [nodupb, V.okb, A.okb, Ob.okb, all_fv hcs] <;> decide) (wfixed d 2 (by decide) (by decide) (by omega) (((3 :: encC c i) ++ [UInt8.ofNat i]) ++ be 2 u) x cs len cap mk hcs hl hcp (by rw [List.length_append, List.length_append, be_length]; simp only [List.length_singleton]; omega) (fun H hW => ?_))
      rcases hW with ⟨cs2, x2, len2, cap2, mk2, rfl, hcs2, hl2, hc2⟩ | ⟨cs2, os, x2, M, len2, cap2, mk2, mo, rfl, hcs2, hos, hl2, hc2⟩
      · skip
        conv => whnf
        repeat' ((first | (with_reducible refine y'2 ‹_› ?_) | (with_reducible refine y'5 ‹_› ?_) | fail) <;> (conv => whnf))
        exact ⟨6 - (i + 1), by omega, Into.weak [0, 1, 2] [(3, .a (.ptr 1 0)), (9, .a (.ptr 0 0)), (10, .a (.int .i64 ((i + 1 : Nat) : Int)))] [.cells rs 93 mr, .cells [.slc 2 0 len2 cap2] 146 false, .cells cs2 5 mk2] ⟨i + 1, cs2, x2, len2, cap2, mk2, by omega, rfl, by rw [he]; exact hcs2, by rw [he]; exact hl2, hc2, rfl, rfl⟩ ⟨rfl, rfl, congrArg (fun z => some (V.a (.int .i64 z))) hw, trivial⟩ ⟨ren_pl hp _ _ _, rfl, ren_fv hcs2 _ _ _, trivial⟩ (by simp [nodupb, baseb, Ob.okb, frmOk, V.okb, A.okb, hp.2, all_fv hcs2] <;> decide)⟩
      · skip
        conv => whnf
        repeat' ((first | (with_reducible refine y'2 ‹_› ?_) | (with_reducible refine y'5 ‹_› ?_) | fail) <;> (conv => whnf))
        exact ⟨6 - (i + 1), by omega, Into.weak [0, 1, 4] [(3, .a (.ptr 1 0)), (9, .a (.ptr 0 0)), (10, .a (.int .i64 ((i + 1 : Nat) : Int)))] [.cells rs 93 mr, .cells [.slc 2 0 len2 cap2] 146 false, .cells cs2 5 mk2] ⟨i + 1, cs2, x2, len2, cap2, mk2, by omega, rfl, by rw [he]; exact hcs2, by rw [he]; exact hl2, hc2, rfl, rfl⟩ ⟨rfl, rfl, congrArg (fun z => some (V.a (.int .i64 z))) hw, trivial⟩ ⟨ren_pl hp _ _ _, rfl, ren_fv hcs2 _ _ _, trivial⟩ (by simp [nodupb, baseb, Ob.okb, frmOk, V.okb, A.okb, hp.2, all_fv hcs2] <;> decide)⟩
    · have hin : i = 6 := by have := of_decide_eq_false h; omega
      subst hin
      conv => whnf
      skip
      refine Fn.frame [1, 2] (by rfl) (by exact ⟨rfl, ren_fv hcs _ _ _, trivial⟩) (by simp [nodupb, V.okb, A.okb, Ob.okb, all_fv hcs] <;> decide) (wtold _ x cs len cap mk hcs hl ?_)
      conv => whnf
      repeat' ((first | (with_reducible refine y'2 ‹_› ?_) | (with_reducible refine y'5 ‹_› ?_) | fail) <;> (conv => whnf))
      exact keepOf (v₀ := .a (.str (bs (toldP c)))) [.cells rs 93 mr] [0] rfl ⟨ren_pl hp _ _ _, trivial⟩ (by simp [nodupb, baseb, Ob.okb, frmOk, V.okb, A.okb, hp.2]) hK
end
end Go.Proofs.YtimddbgnaeeggaaDoor.KD
