import Derived.Test.YtimddbgnaeeggaaDoorRG
namespace Go.Proofs.YtimddbgnaeeggaaDoor.KD
open Go.Eng
set_option maxRecDepth 100000
/-- The counts that bytes are, five by five. -/
def pe : List UInt8 → List Cn
  | i :: a :: b :: d :: e :: R => ⟨i.toNat, hiN [a, b], hiN [d, e]⟩ :: pe R
  | _ => []
theorem pe_cons (i a b d e : UInt8) (R : List UInt8) : pe (i :: a :: b :: d :: e :: R) = ⟨i.toNat, hiN [a, b], hiN [d, e]⟩ :: pe R := by rw [pe]
theorem Cn.bytes_pe (i a b d e : UInt8) : Cn.bytes ⟨i.toNat, hiN [a, b], hiN [d, e]⟩ = [i, a, b, d, e] := by
  unfold Cn.bytes
  rw [be_two, be_two]
  simp
theorem cts_put {E : List Cn} {i : Nat} (h : i < E.length) (e : Cn) : storeL (cts E) (i * 3) e.row = cts (E.set i e) := by
  have hl := cts_len E
  have hr : e.row.length = 3 := rfl
  rw [storeL_row _ _ _ (by omega), List.set_eq_take_append_cons_drop, if_pos h, cts_append, cts_cons]
  have e1 : cts E = cts (E.take i) ++ cts (E.drop i) := by rw [← cts_append, List.take_append_drop]
  have e2 : cts E = cts (E.take (i + 1)) ++ cts (E.drop (i + 1)) := by rw [← cts_append, List.take_append_drop]
  have h1 : List.take (i * 3) (cts E) = cts (E.take i) := by
    rw [e1]; exact List.take_left' (by rw [cts_len, List.length_take]; omega)
  have h2 : List.drop (i * 3 + 3) (cts E) = cts (E.drop (i + 1)) := by
    conv => lhs; rw [e2]
    exact List.drop_left' (by rw [cts_len, List.length_take]; omega)
  rw [h1, hr, h2, List.append_assoc]
theorem cts_in {cs xr : List A} {E y : List Cn} {x : Cn} {o : Nat} (e : cs = cts (E ++ y)) (hx : xr = x.row) (ho : o = E.length * 3) (hy : 0 < y.length) : storeL cs o xr = cts (E ++ [x] ++ y.tail) := by
  subst hx e ho
  rw [cts_put (by rw [List.length_append]; omega)]
  congr 1
  cases y with
  | nil => simp at hy
  | cons a y => simp
def cz : Cn := ⟨0, 0, 0⟩
theorem cts_zeros (n : Nat) : repl [.int .u8 0, .int .i64 0, .int .i64 0] (n * 3) = cts (List.replicate n cz) := by
  apply List.ext_getElem?
  intro j
  have hl : (cts (List.replicate n cz)).length = n * 3 := by rw [cts_len, List.length_replicate]
  by_cases hj : j < n * 3
  · have hi : (List.replicate n cz)[j / 3]? = some cz := by rw [List.getElem?_replicate, if_pos (by omega)]
    have hx := cts_drop hi
    have e : ((cts (List.replicate n cz)).drop (j / 3 * 3)).take 3 = [.int .u8 0, .int .i64 0, .int .i64 0] := hx
    have e2 : (List.take 3 (List.drop (j / 3 * 3) (cts (List.replicate n cz))))[j % 3]? = (cts (List.replicate n cz))[j]? := by
      rw [List.getElem?_take_of_lt (by omega), List.getElem?_drop, show j / 3 * 3 + j % 3 = j by omega]
    rw [← e2, e]
    have hr : j % 3 = 0 ∨ j % 3 = 1 ∨ j % 3 = 2 := by omega
    simp only [repl, List.getElem?_map, List.getElem?_range hj, Option.map_some, List.length_cons, List.length_nil]
    rcases hr with h | h | h <;> rw [h] <;> rfl
  · rw [List.getElem?_eq_none (by simp only [repl, List.length_map, List.length_range]; omega), List.getElem?_eq_none (by rw [hl]; omega)]
theorem cts_new {cs xr zs : List A} {E y : List Cn} {x : Cn} {o n : Nat} (e : cs = cts (E ++ y)) (hx : xr = x.row) (ho : o = E.length * 3) (hz : zs = [.int .u8 0, .int .i64 0, .int .i64 0]) :
    List.drop 0 (List.take (0 + o) cs) ++ xr ++ repl zs (n * 3) = cts (E ++ [x] ++ List.replicate n cz) := by
  subst hx hz e ho
  rw [Nat.zero_add, cts_append, List.take_left' (cts_len E), List.drop_zero, cts_zeros, cts_append, cts_append, cts_cons, cts_nil, List.append_nil]
/-- What is known while counts are read: the counts so far, where the reader stands. -/
structure Rd (L : List UInt8) (a : Nat) (E : List Cn) : Prop where
  le : a ≤ L.length
  at_ : a = 1 + E.length * 5
  rest : E ++ pe (L.drop a) = pe (L.drop 1)
  lt : ∀ e ∈ E, e.who < 256 ∧ e.up < 65536 ∧ e.down < 65536
  told : cbs E ++ L.drop a = L.drop 1
theorem Rd.start {L : List UInt8} (h : 1 ≤ L.length) : Rd L 1 [] := ⟨h, rfl, rfl, (fun e h => absurd h List.not_mem_nil), by rw [cbs_nil]; rfl⟩
theorem Rd.step {L : List UInt8} {a : Nat} {E : List Cn} (h : Rd L a E) {i b1 b2 b3 b4 : UInt8} {R : List UInt8} (hD : L.drop a = i :: b1 :: b2 :: b3 :: b4 :: R) : Rd L (a + 5) (E ++ [⟨i.toNat, hiN [b1, b2], hiN [b3, b4]⟩]) := by
  have hl : (L.drop a).length = L.length - a := List.length_drop
  have h5 : L.drop (a + 5) = R := by rw [← List.drop_drop, hD]; rfl
  rw [hD] at hl
  refine ⟨by simp at hl; omega, by rw [List.length_append, List.length_singleton, h.at_]; omega, ?_, ?_, ?_⟩
  · rw [h5, ← h.rest, hD, pe_cons, List.append_assoc]; rfl
  · intro e he
    rcases List.mem_append.1 he with he | he
    · exact h.lt e he
    · rw [List.mem_singleton.1 he]
      exact ⟨i.toNat_lt, hiN_lt _, hiN_lt _⟩
  · rw [cbs_snoc, Cn.bytes_pe, h5, ← h.told, hD, List.append_assoc]; rfl
theorem Rd.done {L : List UInt8} {a : Nat} {E : List Cn} (h : Rd L a E) (ha : L.length ≤ a) : E = pe (L.drop 1) ∧ cbs E = L.drop 1 ∧ (L.drop 1).length % 5 = 0 := by
  have e : L.drop a = [] := List.drop_eq_nil_of_le ha
  have h1 := h.rest
  have h2 := h.told
  rw [e] at h1 h2
  have e3 : pe [] = [] := by rw [pe]; intros; contradiction
  rw [e3, List.append_nil] at h1
  rw [List.append_nil] at h2
  refine ⟨h1, h2, ?_⟩
  rw [← h2, cbs_len]; omega
/-- One round of the reading. -/
theorem rd_next {L : List UInt8} {a : Nat} {E : List Cn} (h : Rd L a E) {i : UInt8} {R t1 t2 : List UInt8} {ok1 ok2 : Bool} {a1 a2 : Nat} {e1 e2 : Int} (hD : L.drop a = i :: R) (h1 : tk L (a + 1) 0 2 = (t1, ok1, a1, e1)) (h2 : tk L a1 e1 2 = (t2, ok2, a2, e2)) :
    (e2 = 0 → Rd L a2 (E ++ [⟨i.toNat, hiN t1, hiN t2⟩])) ∧ (e2 ≠ 0 → (L.drop 1).length % 5 ≠ 0) ∧ a2 ≤ L.length ∧ a < a2 := by
  have hl : (L.drop a).length = L.length - a := List.length_drop
  have hl1 : (L.drop 1).length = L.length - 1 := List.length_drop
  have hat := h.at_
  have hle := h.le
  have hR : L.drop (a + 1) = R := by rw [← List.drop_drop, hD]; rfl
  rw [hD] at hl
  simp only [List.length_cons] at hl
  rcases tk_cases h1 with ⟨_, _, q1, q2⟩ | ⟨_, _, q1, q2, q3, q4, q5⟩
  · have hsh : L.length < a + 1 + 2 := by
      rcases Nat.lt_or_ge L.length (a + 1 + 2) with hh | hh
      · exact hh
      · rw [tk_ok hh] at h1
        injection h1 with _ h1; injection h1 with _ h1; injection h1 with _ h1
        exact absurd h1.symm q2
    rw [tk_err q2] at h2
    injection h2 with _ h2; injection h2 with _ h2; injection h2 with h2 h3
    subst h2 h3
    exact ⟨fun hh => absurd hh q2, fun _ => by omega, by omega, by omega⟩
  · subst q5 q4
    rcases tk_cases h2 with ⟨_, _, p1, p2⟩ | ⟨_, _, p1, p2, p3, p4, p5⟩
    · have hsh : L.length < a + 1 + 2 + 2 := by
        rcases Nat.lt_or_ge L.length (a + 1 + 2 + 2) with hh | hh
        · exact hh
        · rw [tk_ok hh] at h2
          injection h2 with _ h2; injection h2 with _ h2; injection h2 with _ h2
          exact absurd h2.symm p2
      exact ⟨fun hh => absurd hh p2, fun _ => by omega, by omega, by omega⟩
    · subst p5 p4
      refine ⟨fun _ => ?_, fun hh => absurd rfl hh, by omega, by omega⟩
      rw [hR] at q2
      have hR2 : L.drop (a + 1 + 2) = R.drop 2 := by rw [← List.drop_drop, hR]
      rw [hR2] at p2
      match R, hl, q2, p2, hD with
      | b1 :: b2 :: b3 :: b4 :: R, hl, q2, p2, hD =>
        subst q2 p2
        exact h.step hD
      | [], hl, _, _, _ => simp at hl; omega
      | [_], hl, _, _, _ => simp at hl; omega
      | [_, _], hl, _, _, _ => simp at hl; omega
      | [_, _, _], hl, _, _, _ => simp at hl; omega
theorem cts_fill {xr : List A} (h : xr.length = 3) : storeL (repl [.int .u8 0, .int .i64 0, .int .i64 0] (1 * Tryd.prog.types[104].size)) (0 * Tryd.prog.types[104].size) xr = xr := by
  rw [s68, Nat.zero_mul]
  exact store_all (by rw [h, repl_length])
theorem b68 : Tryd.prog.types[104].bytes = 24 := rfl
theorem cts_first {xr : List A} {x : Cn} {cap : Nat} (h : xr = x.row) : List.drop 0 (List.take (0 + 1 * Tryd.prog.types[104].size) xr) ++ repl [.int .u8 0, .int .i64 0, .int .i64 0] ((cap - 1) * Tryd.prog.types[104].size) = cts ([x] ++ List.replicate (cap - 1) cz) := by
  have hl : xr.length = 3 := by rw [h]; rfl
  rw [s68, Nat.zero_add, List.drop_zero, List.take_of_length_le (by omega), cts_zeros, cts_append, cts_cons, cts_nil, List.append_nil, h]
/-- What the reference takes a text of head 3 for. -/
def apC (T : List UInt8) : Bool := decide (T.length % 5 = 0) && rgt 0 (pe T)
theorem loopx_gen {n0 : Nat} {body : Frm → Hp → (Exit → Frm → Hp → Prop) → Prop} {F : Frm} {H : Hp} {Q : Exit → Frm → Hp → Prop} (J : Frm → Hp → Prop) (k : Exit) (hJ : ∀ F H, Into n0 F H J → Q k F H)
    (h : ∀ Q' : Exit → Frm → Hp → Prop, (∀ F H, Into n0 F H J → Q' k F H) → loopx n0 body F H Q') : loopx n0 body F H Q := h Q hJ
/-- The blocks while counts are read. -/
inductive TH (s : ByteArray) (a : Nat) (e : Int) (E : List Cn) (H : Hp) : Prop where
  | none (hE : E = []) (hH : H = [.cells [.int .u8 0, .bool false, .nils, .nils, .nils] 57 false, .cells [.int .u8 3, .bool false, .nils, .nils, .nils] 57 false, .cells [.str s, .int .i64 (a : Int), .int .i64 e] 102 false])
  | some (rs : List A) (X : List Cn) (n cap : Nat) (mk : Bool) (hrs : rs = cts (E ++ X)) (hn : n = E.length) (hcap : cap = n + X.length) (hH : H = [.cells [.int .u8 0, .bool false, .nils, .nils, .nils] 57 false, .cells [.int .u8 3, .bool false, .nils, .slc 3 0 n cap, .nils] 57 false, .cells [.str s, .int .i64 (a : Int), .int .i64 e] 102 false, .cells rs 104 mk])
section
variable {ro : Addr → A → Prop}
set_option maxHeartbeats 1000000 in
theorem rightN {K : V → Hp → Prop} (hK : K (.a (.bool true)) []) : Go.Eng.Fn Tryd.prog ro 63 [.g [.int .u8 3, .bool false, .nils, .nils, .nils]] [] K := by
  refine Fn.weak ?_
  refine Fn.of_code h63 Tryd.func63 rfl (Nat.le_of_ble_eq_true rfl) ?_
  conv => whnf
  skip
  refine loopx_iter 1 ?_
  conv => whnf
  skip
  refine loopx_iter 1 ?_
  conv => whnf
  skip
  exact keepOf (v₀ := .a (.bool true)) [] [] rfl trivial rfl hK
set_option maxHeartbeats 1000000 in
theorem toldN {K : V → Hp → Prop} (hK : K (.a (.str (bs [3]))) []) : Go.Eng.Fn Tryd.prog ro 56 [.g [.int .u8 3, .bool false, .nils, .nils, .nils]] [] K := by
  refine Fn.weak ?_
  refine Fn.of_code h56 Tryd.func56 rfl (Nat.le_of_ble_eq_true rfl) ?_
  conv => whnf
  skip
  refine loopx_iter 1 ?_
  conv => whnf
  skip
  refine loopx_iter 1 ?_
  conv => whnf
  skip
  refine loopx_iter 1 ?_
  conv => whnf
  skip
  exact keepOf (v₀ := .a (.str (bs [3]))) [] [] rfl trivial rfl hK
set_option maxHeartbeats 8000000 in
theorem apart3 (T : List UInt8) (hT : T.length ≤ 39) {K : V → Hp → Prop}
    (hK0 : apC T = false → K (.g [.int .u8 0, .bool false, .nils, .nils, .nils]) [])
    (hK1 : apC T = true → T = [] → K (.g [.int .u8 3, .bool false, .nils, .nils, .nils]) [])
    (hK2 : ∀ rs X n cap mk, apC T = true → rs = cts (pe T ++ X) → n = (pe T).length → cap = n + X.length → K (.g [.int .u8 3, .bool false, .nils, .slc 0 0 n cap, .nils]) [.cells rs 104 mk]) :
    Go.Eng.Fn Tryd.prog ro 32 [.a (.str (bs (3 :: T)))] [] K := by
  obtain ⟨L, hL⟩ : ∃ L, L = 3 :: T := ⟨_, rfl⟩
  rw [← hL]
  have hLl : L.length = T.length + 1 := by rw [hL]; rfl
  have hd1 : L.drop 1 = T := by rw [hL]; rfl
  have hsz := bs_size L
  have g0 : byteAt (bs L) 0 = some 3 := by rw [hL]; exact byteAt_bs (i := 0) rfl
  have c0 : ((bs L).data.toList == ([] : List UInt8)) = false := by rw [hL]; rfl
  have c1 : decide (((bs L).size : Int) > 40) = false := decide_eq_false (by omega)
  refine Fn.weak ?_
  refine Fn.of_code (cutAt [18, 26] h32) Tryd.func32 rfl (Nat.le_of_ble_eq_true rfl) ?_
  obtain ⟨s, hs⟩ : ∃ s, s = bs L := ⟨_, rfl⟩
  rw [← hs] at hsz g0 c0 c1 ⊢
  conv => whnf
  repeat' ((first | (with_reducible refine y'b ‹_› ?_) | ((with_reducible apply y'o); (· first | exact g0 | exact g1 | exact g2)) | fail) <;> (conv => whnf))
  refine loopx_gen (fun F H => ∃ (a : Nat) (e : Int) (E : List Cn), (e = 0 → Rd L a E ∧ L.length ≤ a) ∧ (e ≠ 0 → T.length % 5 ≠ 0) ∧ TH s a e E H ∧ F = [(0, .a (.str s)), (2, .a (.ptr 0 0)), (3, .a (.ptr 1 0)), (4, .a (.ptr 2 0))]) (.exit 1) (fun F H hI => ?_) (fun Q' hQ' => ?_)
  · conv => whnf
    refine ⟨hI.mono ?_⟩
    clear hI F H
    rintro F H ⟨a, e, E, hR, hRn, hH, rfl⟩
    by_cases he : e = 0
    · obtain ⟨hR2, ha⟩ := hR he
      clear hR
      subst he
      obtain ⟨r1, r2, r3⟩ := hR2.done ha
      rw [hd1] at r1 r2 r3
      have hap : apC T = rgt 0 E := by unfold apC; rw [decide_eq_true r3, Bool.true_and, ← r1]
      have hLE : bs ([3] ++ cbs E) = s := by rw [r2, hs, hL]; rfl
      rcases hH with ⟨rfl, rfl⟩ | ⟨rs, X, n, cap, mk, hrs, hn, hcap, rfl⟩
      · have hTn : T = [] := by rw [← r2, cbs_nil]
        have hk := hK1 (by rw [hap]; rfl) hTn
        have hs3 : (!((bs [3]).data.toList == s.data.toList)) = false := by rw [hs, hL, hTn]; simp
        conv => whnf
        skip
        refine Fn.frame [] (by rfl) (by exact trivial) (by rfl) (rightN ?_)
        conv => whnf
        skip
        refine Fn.frame [] (by rfl) (by exact trivial) (by rfl) (toldN ?_)
        conv => whnf
        repeat' ((first | (with_reducible refine y'b ‹_› ?_) | fail) <;> (conv => whnf))
        exact keepOf (v₀ := .g [.int .u8 3, .bool false, .nils, .nils, .nils]) [] [] rfl trivial rfl hk
      · have hp := cts_pl hrs
        have hs3 : (!((bs ([3] ++ cbs E)).data.toList == s.data.toList)) = false := by rw [hLE]; simp
        have hE9 : n ≤ 9 := by
          have := congrArg List.length r2
          rw [cbs_len] at this
          omega
        cases hg : rgt 0 E with
        | false =>
          have hk := hK0 (by rw [hap]; exact hg)
          conv => whnf
          skip
          refine Fn.frame [3] (by rfl) (by exact ⟨ren_pl hp _ _ _, trivial⟩) (by simp [nodupb, V.okb, A.okb, Ob.okb, hp.2] <;> decide) (rightC E X rs n cap mk hrs hn hE9 hR2.lt ?_)
          rw [hg]
          conv => whnf
          repeat' ((first | (with_reducible first | refine y'5 ‹_› ?_ | refine y'6 ‹_› ?_) | fail) <;> (conv => whnf))
          exact keepOf (v₀ := .g [.int .u8 0, .bool false, .nils, .nils, .nils]) [] [] rfl trivial rfl hk
        | true =>
          have hk := hK2 rs X n cap mk (by rw [hap]; exact hg) (by rw [← r1]; exact hrs) (by rw [← r1]; exact hn) hcap
          conv => whnf
          skip
          refine Fn.frame [3] (by rfl) (by exact ⟨ren_pl hp _ _ _, trivial⟩) (by simp [nodupb, V.okb, A.okb, Ob.okb, hp.2] <;> decide) (rightC E X rs n cap mk hrs hn hE9 hR2.lt ?_)
          rw [hg]
          conv => whnf
          repeat' ((first | (with_reducible refine y'6 ‹_› ?_) | fail) <;> (conv => whnf))
          refine Fn.frame [3] (by rfl) (by exact ⟨ren_pl hp _ _ _, trivial⟩) (by simp [nodupb, V.okb, A.okb, Ob.okb, hp.2] <;> decide) (toldC 3 E X rs n cap mk hrs hn hE9 hR2.lt (by decide) ?_)
          conv => whnf
          repeat' ((first | (with_reducible refine y'b ‹_› ?_) | (with_reducible first | refine y'5 ‹_› ?_ | refine y'6 ‹_› ?_) | fail) <;> (conv => whnf))
          exact keepOf (v₀ := .g [.int .u8 3, .bool false, .nils, .slc 0 0 n cap, .nils]) [.cells rs 104 mk] [3] rfl ⟨ren_pl hp _ _ _, trivial⟩ (by simp [nodupb, baseb, Ob.okb, frmOk, V.okb, A.okb, hp.2] <;> decide) hk
    · have c2 : (e != 0) = true := by simp [he]
      have hk := hK0 (by unfold apC; rw [decide_eq_false (hRn he)]; rfl)
      rcases hH with ⟨rfl, rfl⟩ | ⟨rs, X, n, cap, mk, hrs, hn, hcap, rfl⟩
      · skip
        conv => whnf
        repeat' ((first | (with_reducible refine y'b ‹_› ?_) | fail) <;> (conv => whnf))
        exact keepOf (v₀ := .g [.int .u8 0, .bool false, .nils, .nils, .nils]) [] [] rfl trivial rfl hk
      · have hp := cts_pl hrs
        conv => whnf
        repeat' ((first | (with_reducible refine y'b ‹_› ?_) | (with_reducible refine y'5 ‹_› ?_) | fail) <;> (conv => whnf))
        exact keepOf (v₀ := .g [.int .u8 0, .bool false, .nils, .nils, .nils]) [] [] rfl trivial rfl hk
  · refine loopx_of (fun m F H => ∃ (a : Nat) (e : Int) (E : List Cn), (e = 0 → Rd L a E) ∧ (e ≠ 0 → T.length % 5 ≠ 0) ∧ TH s a e E H ∧ m = (if e = 0 then L.length + 1 - a else 0) ∧ F = [(0, .a (.str s)), (2, .a (.ptr 0 0)), (3, .a (.ptr 1 0)), (4, .a (.ptr 2 0))]) (L.length + 1 - 1) ?_ ?_
    · exact Into.weak [0, 1, 2] [(0, .a (.str s)), (2, .a (.ptr 0 0)), (3, .a (.ptr 1 0)), (4, .a (.ptr 2 0))] [.cells [.int .u8 0, .bool false, .nils, .nils, .nils] 57 false, .cells [.int .u8 3, .bool false, .nils, .nils, .nils] 57 false, .cells [.str s, .int .i64 (1 : Nat), .int .i64 0] 102 false] ⟨1, 0, [], fun _ => Rd.start (by omega), (fun h => absurd rfl h), .none rfl rfl, rfl, rfl⟩ ⟨rfl, rfl, rfl, rfl, trivial⟩ ⟨rfl, rfl, rfl, trivial⟩ rfl
    · rintro m F H ⟨a, e, E, hR, hRn, hH, rfl, rfl⟩
      rcases hH with ⟨rfl, rfl⟩ | ⟨rs, X, n, cap, mk, hrs, hn, hcap, rfl⟩
      · by_cases ha : a < L.length ∧ e = 0
        · obtain ⟨ha, rfl⟩ := ha
          have c2 : decide ((a : Int) < (s.size : Int)) = true := decide_eq_true (by omega)
          rw [hs] at *
          conv => whnf
          repeat' ((first | (with_reducible refine y'b ‹_› ?_) | fail) <;> (conv => whnf))
          refine Fn.frame [2] (by rfl) (by exact ⟨rfl, trivial⟩) (by rfl) (rrbyte L a 0 (by omega) (by omega) (fun t ok a' e' ht => ?_))
          obtain ⟨i, R0, hD0⟩ := List.exists_cons_of_length_pos (l := L.drop a) (by rw [List.length_drop]; omega)
          have hD1 : L.drop (a + 1) = R0 := by rw [← List.drop_drop, hD0]; rfl
          have hl1 : R0.length = L.length - (a + 1) := by rw [← hD1, List.length_drop]
          rw [tk_ok (by omega), hD0] at ht
          obtain ⟨rfl, rfl, rfl, rfl⟩ : [i] = t ∧ true = ok ∧ a + 1 = a' ∧ 0 = e' := by simpa using ht
          have hi1 : (UInt8.ofNat (hiN [i])).toNat = i.toNat := by rw [hiN_cons, hiN_nil]; simp
          rw [hi1]
          conv => whnf
          skip
          refine Fn.frame [2] (by rfl) (by exact ⟨rfl, trivial⟩) (by rfl) (rrfixed L (a + 1) 2 0 (by omega) (by omega) (by decide) (by decide) (fun t1 ok1 a1 e1 ht1 => ?_))
          have hu16 : hiN t1 < 65536 := by
            rcases tk_cases ht1 with ⟨_, h, _⟩ | ⟨_, _, _, _, h, _⟩
            · rw [h, hiN_nil]; decide
            · have := hiN_lt t1; rw [h] at this; exact this
          have ha1 : a1 ≤ L.length ∧ a < a1 := by
            rcases tk_cases ht1 with ⟨_, _, h, _⟩ | ⟨_, _, h2, _, _, h, _⟩ <;> omega
          obtain ⟨u, hu⟩ : ∃ u, u = hiN t1 := ⟨_, rfl⟩
          rw [← hu] at hu16 ⊢
          have hiu : IntKind.i64.wrap (u : Int) = (u : Int) := i64w (by omega) (by omega)
          conv => whnf
          skip
          rw [hiu]
          conv => whnf
          skip
          refine Fn.frame [2] (by rfl) (by exact ⟨rfl, trivial⟩) (by rfl) (rrfixed L a1 2 e1 ha1.1 (by omega) (by decide) (by decide) (fun t2 ok2 a2 e2 ht2 => ?_))
          have hd16 : hiN t2 < 65536 := by
            rcases tk_cases ht2 with ⟨_, h, _⟩ | ⟨_, _, _, _, h, _⟩
            · rw [h, hiN_nil]; decide
            · have := hiN_lt t2; rw [h] at this; exact this
          obtain ⟨d, hd⟩ : ∃ d, d = hiN t2 := ⟨_, rfl⟩
          rw [← hd] at hd16 ⊢
          have hid : IntKind.i64.wrap (d : Int) = (d : Int) := i64w (by omega) (by omega)
          have hnext := rd_next (hR rfl) hD0 ht1 ht2
          rw [← hu, ← hd] at hnext
          conv => whnf
          skip
          rw [hid]
          conv => whnf
          skip
          obtain ⟨x, hx⟩ : ∃ x : Cn, x = ⟨i.toNat, u, d⟩ := ⟨_, rfl⟩
          rw [← hx] at hnext
          obtain ⟨xr, hxr⟩ : ∃ xr : List A, xr = x.row := ⟨_, rfl⟩
          have hxr2 : ([.int .u8 (i.toNat : Int), .int .i64 (u : Int), .int .i64 (d : Int)] : List A) = xr := by rw [hxr, hx]; rfl
          rw [hxr2]
          have hxp : Pl xr := by rw [hxr, hx]; exact ⟨fun _ => rfl, fun _ => rfl⟩
          have hxl : xr.length = 3 := by rw [hxr]; rfl
          clear hxr2 hiu hid hu16 hd16 ht1 ht2 hi1
          refine cutx_of (fun F H => F = [(0, .a (.str (bs L))), (2, .a (.ptr 0 0)), (3, .a (.ptr 1 0)), (4, .a (.ptr 2 0)), (5, .a (.ptr 3 0))] ∧ H = [.cells [.int .u8 0, .bool false, .nils, .nils, .nils] 57 false, .cells [.int .u8 3, .bool false, .nils, .nils, .nils] 57 false, .cells [.str (bs L), .int .i64 (a2 : Nat), .int .i64 e2] 102 false, .cells xr 104 false]) ?_ ?_
          · exact Into.weak [0, 1, 2, 3] [(0, .a (.str (bs L))), (2, .a (.ptr 0 0)), (3, .a (.ptr 1 0)), (4, .a (.ptr 2 0)), (5, .a (.ptr 3 0))] [.cells [.int .u8 0, .bool false, .nils, .nils, .nils] 57 false, .cells [.int .u8 3, .bool false, .nils, .nils, .nils] 57 false, .cells [.str (bs L), .int .i64 (a2 : Nat), .int .i64 e2] 102 false, .cells xr 104 false] ⟨rfl, rfl⟩ ⟨rfl, rfl, rfl, rfl, rfl, trivial⟩ ⟨rfl, rfl, rfl, ren_pl hxp _ _ _, trivial⟩ (by simp [nodupb, baseb, Ob.okb, frmOk, V.okb, A.okb, hxp.2] <;> decide)
          rintro F H ⟨rfl, rfl⟩
          have hxs : decide (0 + Tryd.prog.types[104].size ≤ xr.length) = true := by rw [s68, hxl]; rfl
          have hxw : List.drop 0 (List.take (0 + Tryd.prog.types[104].size) xr) = xr := by rw [s68, List.drop_zero, List.take_of_length_le (by omega)]
          conv => whnf
          repeat' ((first | (with_reducible refine y'b ‹_› ?_) | fail) <;> (conv => whnf))
          refine y't hxw ?_
          conv => whnf
          skip
          refine y'n (by rw [hxl]; rfl) ?_
          rw [cts_fill hxl]
          conv => whnf
          repeat' ((first | ((with_reducible refine y'n ?_ ?_); (· first | assumption | exact decide_eq_true (by omega) | decide +kernel)) | (with_reducible refine y'5 ‹_› ?_) | fail) <;> (conv => whnf))
          intro cap hcap
          conv => whnf
          repeat' ((first | (with_reducible refine y'5 ‹_› ?_) | fail) <;> (conv => whnf))
          refine y'f (l' := cts ([x] ++ List.replicate (cap - 1) cz)) (cts_first (cap := cap) hxr) (fun rs hrs => ?_)
          have hp := cts_pl hrs
          conv => whnf
          repeat' ((first | (with_reducible refine y'5 ‹_› ?_) | fail) <;> (conv => whnf))
          refine ⟨if e2 = 0 then L.length + 1 - a2 else 0, ?_, Into.weak [0, 1, 2, 5] [(0, .a (.str (bs L))), (2, .a (.ptr 0 0)), (3, .a (.ptr 1 0)), (4, .a (.ptr 2 0))] [.cells [.int .u8 0, .bool false, .nils, .nils, .nils] 57 false, .cells [.int .u8 3, .bool false, .nils, .slc 3 0 1 cap, .nils] 57 false, .cells [.str (bs L), .int .i64 (a2 : Nat), .int .i64 e2] 102 false, .cells rs 104 false] ⟨a2, e2, [x], hnext.1, (fun h => by have := hnext.2.1 h; rw [hd1] at this; exact this), .some rs (List.replicate (cap - 1) cz) 1 cap false hrs rfl (by rw [List.length_replicate]; omega) rfl, rfl, rfl⟩ ⟨rfl, rfl, rfl, rfl, trivial⟩ ⟨rfl, rfl, rfl, ren_pl hp _ _ _, trivial⟩ (by simp [nodupb, baseb, Ob.okb, frmOk, V.okb, A.okb, hp.2] <;> decide)⟩
          have := hnext.2.2
          rw [if_pos rfl]
          split <;> omega
        · by_cases hal : a < L.length
          · have he : e ≠ 0 := fun h => ha ⟨hal, h⟩
            have c2 : decide ((a : Int) < (s.size : Int)) = true := decide_eq_true (by omega)
            have c3 : (e == 0) = false := by simp [he]
            conv => whnf
            repeat' ((first | (with_reducible refine y'b ‹_› ?_) | fail) <;> (conv => whnf))
            exact hQ' _ _ (Into.weak [0, 1, 2] [(0, .a (.str s)), (2, .a (.ptr 0 0)), (3, .a (.ptr 1 0)), (4, .a (.ptr 2 0))] [.cells [.int .u8 0, .bool false, .nils, .nils, .nils] 57 false, .cells [.int .u8 3, .bool false, .nils, .nils, .nils] 57 false, .cells [.str s, .int .i64 (a : Int), .int .i64 e] 102 false] ⟨a, e, [], (fun h => absurd h he), hRn, .none rfl rfl, rfl⟩ ⟨rfl, rfl, rfl, rfl, trivial⟩ ⟨rfl, rfl, rfl, trivial⟩ rfl)
          · have c2 : decide ((a : Int) < (s.size : Int)) = false := decide_eq_false (by omega)
            conv => whnf
            repeat' ((first | (with_reducible refine y'b ‹_› ?_) | fail) <;> (conv => whnf))
            exact hQ' _ _ (Into.weak [0, 1, 2] [(0, .a (.str s)), (2, .a (.ptr 0 0)), (3, .a (.ptr 1 0)), (4, .a (.ptr 2 0))] [.cells [.int .u8 0, .bool false, .nils, .nils, .nils] 57 false, .cells [.int .u8 3, .bool false, .nils, .nils, .nils] 57 false, .cells [.str s, .int .i64 (a : Int), .int .i64 e] 102 false] ⟨a, e, [], (fun h => ⟨hR h, by omega⟩), hRn, .none rfl rfl, rfl⟩ ⟨rfl, rfl, rfl, rfl, trivial⟩ ⟨rfl, rfl, rfl, trivial⟩ rfl)
      · have hp := cts_pl hrs
        by_cases ha : a < L.length ∧ e = 0
        · obtain ⟨ha, rfl⟩ := ha
          have c2 : decide ((a : Int) < (s.size : Int)) = true := decide_eq_true (by omega)
          rw [hs] at *
          conv => whnf
          repeat' ((first | (with_reducible refine y'b ‹_› ?_) | fail) <;> (conv => whnf))
          refine Fn.frame [2] (by rfl) (by exact ⟨rfl, trivial⟩) (by rfl) (rrbyte L a 0 (by omega) (by omega) (fun t ok a' e' ht => ?_))
          obtain ⟨i, R0, hD0⟩ := List.exists_cons_of_length_pos (l := L.drop a) (by rw [List.length_drop]; omega)
          have hD1 : L.drop (a + 1) = R0 := by rw [← List.drop_drop, hD0]; rfl
          have hl1 : R0.length = L.length - (a + 1) := by rw [← hD1, List.length_drop]
          rw [tk_ok (by omega), hD0] at ht
          obtain ⟨rfl, rfl, rfl, rfl⟩ : [i] = t ∧ true = ok ∧ a + 1 = a' ∧ 0 = e' := by simpa using ht
          have hi1 : (UInt8.ofNat (hiN [i])).toNat = i.toNat := by rw [hiN_cons, hiN_nil]; simp
          rw [hi1]
          conv => whnf
          repeat' ((first | (with_reducible refine y'5 ‹_› ?_) | fail) <;> (conv => whnf))
          refine Fn.frame [2] (by rfl) (by exact ⟨rfl, trivial⟩) (by rfl) (rrfixed L (a + 1) 2 0 (by omega) (by omega) (by decide) (by decide) (fun t1 ok1 a1 e1 ht1 => ?_))
          have hu16 : hiN t1 < 65536 := by
            rcases tk_cases ht1 with ⟨_, h, _⟩ | ⟨_, _, _, _, h, _⟩
            · rw [h, hiN_nil]; decide
            · have := hiN_lt t1; rw [h] at this; exact this
          have ha1 : a1 ≤ L.length ∧ a < a1 := by
            rcases tk_cases ht1 with ⟨_, _, h, _⟩ | ⟨_, _, h2, _, _, h, _⟩ <;> omega
          obtain ⟨u, hu⟩ : ∃ u, u = hiN t1 := ⟨_, rfl⟩
          rw [← hu] at hu16 ⊢
          have hiu : IntKind.i64.wrap (u : Int) = (u : Int) := i64w (by omega) (by omega)
          conv => whnf
          repeat' ((first | (with_reducible refine y'5 ‹_› ?_) | fail) <;> (conv => whnf))
          rw [hiu]
          conv => whnf
          skip
          refine Fn.frame [2] (by rfl) (by exact ⟨rfl, trivial⟩) (by rfl) (rrfixed L a1 2 e1 ha1.1 (by omega) (by decide) (by decide) (fun t2 ok2 a2 e2 ht2 => ?_))
          have hd16 : hiN t2 < 65536 := by
            rcases tk_cases ht2 with ⟨_, h, _⟩ | ⟨_, _, _, _, h, _⟩
            · rw [h, hiN_nil]; decide
            · have := hiN_lt t2; rw [h] at this; exact this
          obtain ⟨d, hd⟩ : ∃ d, d = hiN t2 := ⟨_, rfl⟩
          rw [← hd] at hd16 ⊢
          have hid : IntKind.i64.wrap (d : Int) = (d : Int) := i64w (by omega) (by omega)
          have hnext := rd_next (hR rfl) hD0 ht1 ht2
          rw [← hu, ← hd] at hnext
          conv => whnf
          repeat' ((first | (with_reducible refine y'5 ‹_› ?_) | fail) <;> (conv => whnf))
          rw [hid]
          conv => whnf
          skip
          obtain ⟨x, hx⟩ : ∃ x : Cn, x = ⟨i.toNat, u, d⟩ := ⟨_, rfl⟩
          rw [← hx] at hnext
          obtain ⟨xr, hxr⟩ : ∃ xr : List A, xr = x.row := ⟨_, rfl⟩
          have hxr2 : ([.int .u8 (i.toNat : Int), .int .i64 (u : Int), .int .i64 (d : Int)] : List A) = xr := by rw [hxr, hx]; rfl
          rw [hxr2]
          have hxp : Pl xr := by rw [hxr, hx]; exact ⟨fun _ => rfl, fun _ => rfl⟩
          have hxl : xr.length = 3 := by rw [hxr]; rfl
          clear hxr2 hiu hid hu16 hd16 ht1 ht2 hi1
          refine cutx_of (fun F H => F = [(0, .a (.str (bs L))), (2, .a (.ptr 0 0)), (3, .a (.ptr 1 0)), (4, .a (.ptr 2 0)), (5, .a (.ptr 4 0))] ∧ H = [.cells [.int .u8 0, .bool false, .nils, .nils, .nils] 57 false, .cells [.int .u8 3, .bool false, .nils, .slc 3 0 n cap, .nils] 57 false, .cells [.str (bs L), .int .i64 (a2 : Nat), .int .i64 e2] 102 false, .cells rs 104 mk, .cells xr 104 false]) ?_ ?_
          · exact Into.weak [0, 1, 2, 3, 4] [(0, .a (.str (bs L))), (2, .a (.ptr 0 0)), (3, .a (.ptr 1 0)), (4, .a (.ptr 2 0)), (5, .a (.ptr 4 0))] [.cells [.int .u8 0, .bool false, .nils, .nils, .nils] 57 false, .cells [.int .u8 3, .bool false, .nils, .slc 3 0 n cap, .nils] 57 false, .cells [.str (bs L), .int .i64 (a2 : Nat), .int .i64 e2] 102 false, .cells rs 104 mk, .cells xr 104 false] ⟨rfl, rfl⟩ ⟨rfl, rfl, rfl, rfl, rfl, trivial⟩ ⟨rfl, rfl, rfl, ren_pl hp _ _ _, ren_pl hxp _ _ _, trivial⟩ (by simp [nodupb, baseb, Ob.okb, frmOk, V.okb, A.okb, hxp.2, hp.2] <;> decide)
          rintro F H ⟨rfl, rfl⟩
          have hxs : decide (0 + Tryd.prog.types[104].size ≤ xr.length) = true := by rw [s68, hxl]; rfl
          have hxw : List.drop 0 (List.take (0 + Tryd.prog.types[104].size) xr) = xr := by rw [s68, List.drop_zero, List.take_of_length_le (by omega)]
          conv => whnf
          repeat' ((first | (with_reducible refine y'b ‹_› ?_) | fail) <;> (conv => whnf))
          refine y't hxw ?_
          conv => whnf
          skip
          refine y'n (by rw [hxl]; rfl) ?_
          rw [cts_fill hxl]
          conv => whnf
          repeat' ((first | ((with_reducible refine y'n ?_ ?_); (· first | assumption | exact decide_eq_true (by omega) | decide +kernel)) | (with_reducible refine y'5 ‹_› ?_) | fail) <;> (conv => whnf))
          have hn8 : n ≤ 8 := by
            have h1 := (hR rfl).at_
            have h2 := (hR rfl).le
            omega
          have hx1 : List.drop 0 (List.take (0 + 1 * Tryd.prog.types[104].size) xr) = xr := by rw [s68, List.drop_zero, List.take_of_length_le (by omega)]
          have hrl : rs.length = cap * 3 := by rw [hrs, cts_len, List.length_append, ← hn, ← hcap]
          refine y'c (fun h => ?_) (fun h => ?_)
          · have h' := of_decide_eq_true h
            conv => whnf
            refine y'n (decide_eq_true (by rw [hx1, s68, hxl, hrl]; omega)) ?_
            conv => whnf
            refine y'f (l' := cts (E ++ [x] ++ X.tail)) (by rw [hx1, s68]; exact cts_in hrs hxr (by rw [hn]; omega) (by omega)) (fun rs2 hrs2 => ?_)
            have hp2 := cts_pl hrs2
            conv => whnf
            repeat' ((first | (with_reducible refine y'5 ‹_› ?_) | fail) <;> (conv => whnf))
            refine ⟨if e2 = 0 then L.length + 1 - a2 else 0, ?_, Into.weak [0, 1, 2, 3] [(0, .a (.str (bs L))), (2, .a (.ptr 0 0)), (3, .a (.ptr 1 0)), (4, .a (.ptr 2 0))] [.cells [.int .u8 0, .bool false, .nils, .nils, .nils] 57 false, .cells [.int .u8 3, .bool false, .nils, .slc 3 0 (n + 1) cap, .nils] 57 false, .cells [.str (bs L), .int .i64 (a2 : Nat), .int .i64 e2] 102 false, .cells rs2 104 mk] ⟨a2, e2, E ++ [x], hnext.1, (fun h => by have := hnext.2.1 h; rw [hd1] at this; exact this), .some rs2 X.tail (n + 1) cap mk hrs2 (by rw [List.length_append, List.length_singleton, hn]) (by rw [List.length_tail]; omega) rfl, rfl, rfl⟩ ⟨rfl, rfl, rfl, rfl, trivial⟩ ⟨rfl, rfl, rfl, ren_pl hp2 _ _ _, trivial⟩ (by simp [nodupb, baseb, Ob.okb, frmOk, V.okb, A.okb, hp2.2] <;> decide)⟩
            have := hnext.2.2
            rw [if_pos rfl]
            split <;> omega
          · have h' := of_decide_eq_false h
            conv => whnf
            refine y'n (decide_eq_true (by rw [s68, b68, hrl]; omega)) ?_
            intro cap' hcap'
            conv => whnf
            repeat' ((first | (with_reducible refine y'5 ‹_› ?_) | fail) <;> (conv => whnf))
            refine y'f (l' := cts (E ++ [x] ++ List.replicate (cap' - (n + 1)) cz)) (by rw [hx1, s68]; exact cts_new hrs hxr (by rw [hn]) rfl) (fun rs2 hrs2 => ?_)
            have hp2 := cts_pl hrs2
            conv => whnf
            repeat' ((first | (with_reducible refine y'5 ‹_› ?_) | fail) <;> (conv => whnf))
            refine ⟨if e2 = 0 then L.length + 1 - a2 else 0, ?_, Into.weak [0, 1, 2, 6] [(0, .a (.str (bs L))), (2, .a (.ptr 0 0)), (3, .a (.ptr 1 0)), (4, .a (.ptr 2 0))] [.cells [.int .u8 0, .bool false, .nils, .nils, .nils] 57 false, .cells [.int .u8 3, .bool false, .nils, .slc 3 0 (n + 1) cap', .nils] 57 false, .cells [.str (bs L), .int .i64 (a2 : Nat), .int .i64 e2] 102 false, .cells rs2 104 false] ⟨a2, e2, E ++ [x], hnext.1, (fun h => by have := hnext.2.1 h; rw [hd1] at this; exact this), .some rs2 (List.replicate (cap' - (n + 1)) cz) (n + 1) cap' false hrs2 (by rw [List.length_append, List.length_singleton, hn]) (by rw [List.length_replicate]; omega) rfl, rfl, rfl⟩ ⟨rfl, rfl, rfl, rfl, trivial⟩ ⟨rfl, rfl, rfl, ren_pl hp2 _ _ _, trivial⟩ (by simp [nodupb, baseb, Ob.okb, frmOk, V.okb, A.okb, hp2.2] <;> decide)⟩
            have := hnext.2.2
            rw [if_pos rfl]
            split <;> omega
        · by_cases hal : a < L.length
          · have he : e ≠ 0 := fun h => ha ⟨hal, h⟩
            have c2 : decide ((a : Int) < (s.size : Int)) = true := decide_eq_true (by omega)
            have c3 : (e == 0) = false := by simp [he]
            conv => whnf
            repeat' ((first | (with_reducible refine y'b ‹_› ?_) | fail) <;> (conv => whnf))
            exact hQ' _ _ (Into.weak [0, 1, 2, 3] [(0, .a (.str s)), (2, .a (.ptr 0 0)), (3, .a (.ptr 1 0)), (4, .a (.ptr 2 0))] [.cells [.int .u8 0, .bool false, .nils, .nils, .nils] 57 false, .cells [.int .u8 3, .bool false, .nils, .slc 3 0 n cap, .nils] 57 false, .cells [.str s, .int .i64 (a : Int), .int .i64 e] 102 false, .cells rs 104 mk] ⟨a, e, E, (fun h => absurd h he), hRn, .some rs X n cap mk hrs hn hcap rfl, rfl⟩ ⟨rfl, rfl, rfl, rfl, trivial⟩ ⟨rfl, rfl, rfl, ren_pl hp _ _ _, trivial⟩ (by simp [nodupb, baseb, Ob.okb, frmOk, V.okb, A.okb, hp.2] <;> decide))
          · have c2 : decide ((a : Int) < (s.size : Int)) = false := decide_eq_false (by omega)
            conv => whnf
            repeat' ((first | (with_reducible refine y'b ‹_› ?_) | fail) <;> (conv => whnf))
            exact hQ' _ _ (Into.weak [0, 1, 2, 3] [(0, .a (.str s)), (2, .a (.ptr 0 0)), (3, .a (.ptr 1 0)), (4, .a (.ptr 2 0))] [.cells [.int .u8 0, .bool false, .nils, .nils, .nils] 57 false, .cells [.int .u8 3, .bool false, .nils, .slc 3 0 n cap, .nils] 57 false, .cells [.str s, .int .i64 (a : Int), .int .i64 e] 102 false, .cells rs 104 mk] ⟨a, e, E, (fun h => ⟨hR h, by omega⟩), hRn, .some rs X n cap mk hrs hn hcap rfl, rfl⟩ ⟨rfl, rfl, rfl, rfl, trivial⟩ ⟨rfl, rfl, rfl, ren_pl hp _ _ _, trivial⟩ (by simp [nodupb, baseb, Ob.okb, frmOk, V.okb, A.okb, hp.2] <;> decide))
end
end Go.Proofs.YtimddbgnaeeggaaDoor.KD
