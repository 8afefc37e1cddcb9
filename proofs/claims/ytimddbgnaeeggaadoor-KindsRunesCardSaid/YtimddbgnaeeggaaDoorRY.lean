import Derived.Test.YtimddbgnaeeggaaDoorRX
namespace Go.Proofs.YtimddbgnaeeggaaDoor.KD
open Go.Eng
set_option maxRecDepth 100000
/-- What is known while runes are read. -/
structure Ru (L : List UInt8) (a : Nat) (Ls : List Nat) : Prop where
  le : a ≤ L.length
  pos : 1 ≤ a
  told : flat Ls ++ L.drop a = L.drop 1
  all : AllV Ls
  few : Ls.length + 1 ≤ a
theorem Ru.start {L : List UInt8} (h : 1 ≤ L.length) : Ru L 1 [] := ⟨h, Nat.le_refl _, by rw [flat_nil]; rfl, allv_nil, Nat.le_refl _⟩
theorem Ru.step {L : List UInt8} {a : Nat} {Ls : List Nat} (h : Ru L a Ls) {r n : Nat} (hd : decL (L.drop a) = some (r, n)) : Ru L (a + n) (Ls ++ [r]) ∧ 0 < n := by
  obtain ⟨h1, h2, h3⟩ := decL_sound hd
  have hp := enc_pos r
  have hl : (L.drop a).length = L.length - a := List.length_drop
  have hl2 := congrArg List.length h3
  rw [List.length_append, hl] at hl2
  have := h.le
  refine ⟨⟨by omega, by have := h.pos; omega, ?_, allv_snoc h.all h1, ?_⟩, by omega⟩
  · rw [flat_append, flat_one, ← h.told, ← List.drop_drop, List.append_assoc]
    congr 1
    exact h3.symm
  · rw [List.length_append, List.length_singleton]; have := h.few; omega
theorem r1_cases {L : List UInt8} {r n : Nat} (h : r1 L = (r, n)) : (decL L = some (r, n)) ∨ (n = 0 ∧ r = 0 ∧ decL L = none) := by
  cases hd : decL L with
  | none =>
    rw [r1_none hd] at h
    injection h with h1 h2
    exact .inr ⟨h2.symm, h1.symm, rfl⟩
  | some p =>
    rw [r1_some hd] at h
    rw [h]; exact .inl rfl
section
variable {ro : Addr → A → Prop}
set_option maxHeartbeats 4000000 in
theorem apart4 (T : List UInt8) (hT : T.length ≤ 39) {K : V → Hp → Prop} (hK0 : ¬ IsVa (4 :: T) → K (.g [.int .u8 0, .bool false, .nils, .nils, .nils]) [])
    (hK1 : ∀ rl fs rs Y X n1 c1 n c mk1 mk, AllV rl → Rise rl → 4 :: T = (Va.runes rl).bytes → fs = f64s ([] ++ Y) → n1 = 0 → rs = i32s (rl ++ X) → n = rl.length → K (.g [.int .u8 4, .bool false, .slc 0 0 n1 c1, .nils, .slc 1 0 n c]) [.cells fs 23 mk1, .cells rs 21 mk]) :
    Go.Eng.Fn Tryd.prog ro 32 [.a (.str (bs (4 :: T)))] [] K := by
  have key : ∀ a Ls, Ru (4 :: T) a Ls → (4 :: T).length ≤ a → Goal K 4 (4 :: T) false [] Ls 0 := by
    intro a Ls hR ha
    have hq : flat Ls = T := by
      have := hR.told
      rw [List.drop_eq_nil_of_le ha, List.append_nil] at this
      exact this
    have hP : [4] ++ onB 4 false ++ flF [] ++ flat Ls = 4 :: T := by rw [hq]; rfl
    refine ⟨fun hn => hK0 (fun h => hn ⟨rfl, ?_, hP⟩), (fun _ => vr_lt hR.all), fun fs rs Y X n1 c1 n c mk1 mk h hfs hn1 hrs hn => ?_⟩
    · obtain ⟨rl, h1, h2, h3⟩ := isVa_4 h
      have : rl = Ls := flat_inj h1 hR.all (by rw [← h3, hq])
      subst this
      exact rgR_of h1 h2
    · obtain ⟨h1, h2⟩ := rgR_all h.2.1
      exact hK1 Ls fs rs Y X n1 c1 n c mk1 mk h1 h2 (by rw [← hq]; rfl) hfs hn1 hrs hn
  have hKz : ∀ a Ls, Ru (4 :: T) a Ls → a < (4 :: T).length → decL ((4 :: T).drop a) = none → K (.g [.int .u8 0, .bool false, .nils, .nils, .nils]) [] := by
    intro a Ls hR ha hd
    refine hK0 (fun h => ?_)
    obtain ⟨rl, h1, h2, h3⟩ := isVa_4 h
    have hl : ((4 :: T).drop a).length = (4 :: T).length - a := List.length_drop
    exact no_risen1 hR.all (L := T) hR.told (by intro e; rw [e] at hl; simp at hl ha; omega) hd ⟨rl, h1, h2, h3⟩
  clear hK0 hK1
  obtain ⟨hb, hhb⟩ : ∃ b : UInt8, b = 4 := ⟨_, rfl⟩
  have n1 : ((hb.toNat : Int) == 1) = false := by rw [hhb]; rfl
  have n2 : ((hb.toNat : Int) == 2) = false := by rw [hhb]; rfl
  have n3 : ((hb.toNat : Int) == 3) = false := by rw [hhb]; rfl
  have n4 : ((hb.toNat : Int) == 4) = true := by rw [hhb]; rfl
  have n5 : ((hb.toNat : Int) == 5) = false := by rw [hhb]; rfl
  rw [← hhb] at key hKz ⊢
  obtain ⟨L, hL⟩ : ∃ L, L = hb :: T := ⟨_, rfl⟩
  rw [← hL] at key hKz ⊢
  have hLl : L.length = T.length + 1 := by rw [hL]; rfl
  have hsz := bs_size L
  have g0 : byteAt (bs L) 0 = some hb := by rw [hL]; exact byteAt_bs (i := 0) rfl
  have c0 : ((bs L).data.toList == ([] : List UInt8)) = false := by rw [hL]; rfl
  have c1 : decide (((bs L).size : Int) > 40) = false := decide_eq_false (by omega)
  refine Fn.weak ?_
  refine Fn.of_code (cutAt [18, 26] (gOf [])) Tryd.func32 rfl (Nat.le_of_ble_eq_true rfl) ?_
  obtain ⟨s, hs⟩ : ∃ s, s = bs L := ⟨_, rfl⟩
  rw [← hs] at hsz g0 c0 c1 ⊢
  have g1 := True.intro
  conv => whnf
  repeat' ((first | ((with_reducible refine y'r ?_ ?_); (· decide +kernel)) | ((with_reducible refine y'g ?_ ?_); (· exact ⟨_, rfl⟩)) | (with_reducible first | refine y'b ‹_› ?_ | refine y'n ‹_› ?_ | refine y'1 ‹_› ?_ | refine y'2 ‹_› ?_ | refine y'3 ?_ | refine y'4 ?_) | ((with_reducible refine y'n ?_ ?_); (· first | assumption | exact decide_eq_true (by omega) | decide +kernel)) | ((with_reducible refine y'b ?_ ?_); (· assumption)) | (with_reducible first | refine y'n (y'7 ‹_› ‹_›) ?_ | refine y'v (y'8 ‹_› ‹_›) (fun s hs => ?_) | refine y'5 ‹_› ?_ | refine y'6 ‹_› ?_) | ((with_reducible apply y'o); (· first | exact g0 | exact g1)) | ((with_reducible refine y'p ?_ ?_); (· rfl)) | ((with_reducible refine y'q ?_ ?_); (· rfl)) | fail) <;> (conv => whnf))
  clear g0 n1 n2 n3 n4 n5 c0 c1
  refine loopx_of (fun m F H => ∃ (a n c : Nat) (mk : Bool) (Ls X : List Nat) (rs : List A), Ru L a Ls ∧ m = L.length - a ∧ rs = i32s (Ls ++ X) ∧ n = Ls.length ∧ c = n + X.length ∧ F = [(0, .a (.str s)), (2, .a (.ptr 0 0)), (3, .a (.ptr 1 0)), (4, .a (.ptr 2 0))] ∧ H = [.cells [.int .u8 0, .bool false, .nils, .nils, .nils] 57 false, .cells [.int .u8 (hb.toNat : Int), .bool false, .nils, .nils, .slc 3 0 n c] 57 false, .cells [.str s, .int .i64 (a : Int), .int .i64 0] 102 false, .cells rs 21 mk]) (L.length - 1) ?_ ?_
  · refine Into.ghost 3 [(0, .a (.str s)), (2, .a (.ptr 0 0)), (3, .a (.ptr 1 0)), (4, .a (.ptr 2 0))] [.cells [.int .u8 0, .bool false, .nils, .nils, .nils] 57 false, .cells [.int .u8 (hb.toNat : Int), .bool false, .nils, .nils, .slc 3 0 0 0] 57 false, .cells [.str s, .int .i64 1, .int .i64 0] 102 false, .cells [] 21 false] rfl ⟨rfl, rfl, rfl, rfl, trivial⟩ ⟨rfl, rfl, rfl, rfl, trivial⟩ (by simp [Ob.okb, frmOk, V.okb, A.okb] <;> decide) ?_
    exact Into.weak [0, 1, 2, 3] _ [.cells [.int .u8 0, .bool false, .nils, .nils, .nils] 57 false, .cells [.int .u8 (hb.toNat : Int), .bool false, .nils, .nils, .slc 3 0 0 0] 57 false, .cells [.str s, .int .i64 ((1 : Nat) : Int), .int .i64 0] 102 false, .cells [] 21 false] ⟨1, 0, 0, false, [], [], [], Ru.start (by omega), rfl, i32s_nil.symm, rfl, rfl, rfl, rfl⟩ ⟨rfl, rfl, rfl, rfl, trivial⟩ ⟨rfl, rfl, rfl, rfl, trivial⟩ (by simp [nodupb, baseb, Ob.okb, frmOk, V.okb, A.okb] <;> decide)
  · rintro m F H ⟨a, n, c, mk, Ls, X, rs, hR, rfl, hrs, hn, hc, rfl, rfl⟩
    have hp := i32s_pl hrs
    have hle := hR.le
    have hpos := hR.pos
    have hfew := hR.few
    have hrl : rs.length = c := by rw [hrs, i32s_len, List.length_append, ← hn, hc]
    by_cases ha : a < L.length
    · have d1 : decide ((a : Int) < (s.size : Int)) = true := decide_eq_true (by omega)
      have d2 : decide (0 ≤ (a : Int) ∧ (a : Int) ≤ (s.size : Int)) = true := decide_eq_true (by omega)
      have hx : s.extract (Int.toNat (a : Int)) s.size = bs (L.drop a) := by
        rw [hsz, hs, bs_extract, Int.toNat_natCast]
        congr 1
        exact List.take_of_length_le (by rw [List.length_drop]; exact Nat.le_refl _)
      conv => whnf
      repeat' ((first | ((with_reducible refine y'r ?_ ?_); (· decide +kernel)) | ((with_reducible refine y'g ?_ ?_); (· exact ⟨_, rfl⟩)) | (with_reducible first | refine y'b ‹_› ?_ | refine y'n ‹_› ?_ | refine y'1 ‹_› ?_ | refine y'2 ‹_› ?_ | refine y'3 ?_ | refine y'4 ?_) | ((with_reducible refine y'n ?_ ?_); (· first | assumption | exact decide_eq_true (by omega) | decide +kernel)) | ((with_reducible refine y'b ?_ ?_); (· assumption)) | (with_reducible first | refine y'n (y'7 ‹_› ‹_›) ?_ | refine y'v (y'8 ‹_› ‹_›) (fun s hs => ?_) | refine y'5 ‹_› ?_ | refine y'6 ‹_› ?_) | ((with_reducible apply y'o); (· first | exact g0 | exact g1)) | ((with_reducible refine y'p ?_ ?_); (· rfl)) | ((with_reducible refine y'q ?_ ?_); (· rfl)) | fail) <;> (conv => whnf))
      rw [hx]
      refine Fn.frame [] (by rfl) (by exact trivial) (by rfl) (rune1 (L.drop a) (by rw [List.length_drop]; omega) (fun r q hrq => ?_))
      rcases r1_cases hrq with hd | ⟨rfl, rfl, hd⟩
      · obtain ⟨hR2, hq0⟩ := hR.step hd
        have hle2 := hR2.le
        have d3 : (((q : Nat) : Int) == 0) = false := by simp; omega
        have hw : IntKind.i64.wrap ((a : Int) + (q : Int)) = ((a + q : Nat) : Int) := by rw [i64w (by omega) (by omega)]; omega
        conv => whnf
        repeat' ((first | ((with_reducible refine y'r ?_ ?_); (· decide +kernel)) | ((with_reducible refine y'g ?_ ?_); (· exact ⟨_, rfl⟩)) | (with_reducible first | refine y'b ‹_› ?_ | refine y'n ‹_› ?_ | refine y'1 ‹_› ?_ | refine y'2 ‹_› ?_ | refine y'3 ?_ | refine y'4 ?_) | ((with_reducible refine y'n ?_ ?_); (· first | assumption | exact decide_eq_true (by omega) | decide +kernel)) | ((with_reducible refine y'b ?_ ?_); (· assumption)) | (with_reducible first | refine y'n (y'7 ‹_› ‹_›) ?_ | refine y'v (y'8 ‹_› ‹_›) (fun s hs => ?_) | refine y'5 ‹_› ?_ | refine y'6 ‹_› ?_) | ((with_reducible apply y'o); (· first | exact g0 | exact g1)) | ((with_reducible refine y'p ?_ ?_); (· rfl)) | ((with_reducible refine y'q ?_ ?_); (· rfl)) | fail) <;> (conv => whnf))
        refine y'c (fun h => ?_) (fun h => ?_)
        · have h' := of_decide_eq_true h
          conv => whnf
          refine y'n (decide_eq_true (by simp [s21]; omega)) ?_
          conv => whnf
          refine y'f (i32_in hrs hn s21 (by omega) (x := r) rfl) (fun rs2 hrs2 => ?_)
          have hp2 := i32s_pl hrs2
          conv => whnf
          repeat' ((first | ((with_reducible refine y'r ?_ ?_); (· decide +kernel)) | ((with_reducible refine y'g ?_ ?_); (· exact ⟨_, rfl⟩)) | (with_reducible first | refine y'b ‹_› ?_ | refine y'n ‹_› ?_ | refine y'1 ‹_› ?_ | refine y'2 ‹_› ?_ | refine y'3 ?_ | refine y'4 ?_) | ((with_reducible refine y'n ?_ ?_); (· first | assumption | exact decide_eq_true (by omega) | decide +kernel)) | ((with_reducible refine y'b ?_ ?_); (· assumption)) | (with_reducible first | refine y'n (y'7 ‹_› ‹_›) ?_ | refine y'v (y'8 ‹_› ‹_›) (fun s hs => ?_) | refine y'5 ‹_› ?_ | refine y'6 ‹_› ?_) | ((with_reducible apply y'o); (· first | exact g0 | exact g1)) | ((with_reducible refine y'p ?_ ?_); (· rfl)) | ((with_reducible refine y'q ?_ ?_); (· rfl)) | fail) <;> (conv => whnf))
          exact ⟨L.length - (a + q), by omega, Into.weak [0, 1, 2, 3] [(0, .a (.str s)), (2, .a (.ptr 0 0)), (3, .a (.ptr 1 0)), (4, .a (.ptr 2 0))] [.cells [.int .u8 0, .bool false, .nils, .nils, .nils] 57 false, .cells [.int .u8 (hb.toNat : Int), .bool false, .nils, .nils, .slc 3 0 (n + 1) c] 57 false, .cells [.str s, .int .i64 ((a + q : Nat) : Int), .int .i64 0] 102 false, .cells rs2 21 mk] ⟨a + q, n + 1, c, mk, Ls ++ [r], X.tail, rs2, hR2, rfl, hrs2, by rw [List.length_append, List.length_singleton, hn], by rw [List.length_tail]; omega, rfl, rfl⟩ ⟨rfl, rfl, rfl, rfl, trivial⟩ ⟨rfl, rfl, congrArg (fun z => some (Ob.cells [.str s, .int .i64 z, .int .i64 0] 102 false)) hw, ren_pl hp2 _ _ _, trivial⟩ (by simp [nodupb, baseb, Ob.okb, frmOk, V.okb, A.okb, hp2.2] <;> decide)⟩
        · have h' := of_decide_eq_false h
          conv => whnf
          refine y'n (decide_eq_true (by simp [s21, b21]; omega)) ?_
          intro cap' hcap'
          conv => whnf
          repeat' ((first | ((with_reducible refine y'r ?_ ?_); (· decide +kernel)) | ((with_reducible refine y'g ?_ ?_); (· exact ⟨_, rfl⟩)) | (with_reducible first | refine y'b ‹_› ?_ | refine y'n ‹_› ?_ | refine y'1 ‹_› ?_ | refine y'2 ‹_› ?_ | refine y'3 ?_ | refine y'4 ?_) | ((with_reducible refine y'n ?_ ?_); (· first | assumption | exact decide_eq_true (by omega) | decide +kernel)) | ((with_reducible refine y'b ?_ ?_); (· assumption)) | (with_reducible first | refine y'n (y'7 ‹_› ‹_›) ?_ | refine y'v (y'8 ‹_› ‹_›) (fun s hs => ?_) | refine y'5 ‹_› ?_ | refine y'6 ‹_› ?_) | ((with_reducible apply y'o); (· first | exact g0 | exact g1)) | ((with_reducible refine y'p ?_ ?_); (· rfl)) | ((with_reducible refine y'q ?_ ?_); (· rfl)) | fail) <;> (conv => whnf))
          refine y'f (i32_new (c := cap') hrs hn s21 rfl (x := r) rfl) (fun rs2 hrs2 => ?_)
          have hp2 := i32s_pl hrs2
          conv => whnf
          repeat' ((first | ((with_reducible refine y'r ?_ ?_); (· decide +kernel)) | ((with_reducible refine y'g ?_ ?_); (· exact ⟨_, rfl⟩)) | (with_reducible first | refine y'b ‹_› ?_ | refine y'n ‹_› ?_ | refine y'1 ‹_› ?_ | refine y'2 ‹_› ?_ | refine y'3 ?_ | refine y'4 ?_) | ((with_reducible refine y'n ?_ ?_); (· first | assumption | exact decide_eq_true (by omega) | decide +kernel)) | ((with_reducible refine y'b ?_ ?_); (· assumption)) | (with_reducible first | refine y'n (y'7 ‹_› ‹_›) ?_ | refine y'v (y'8 ‹_› ‹_›) (fun s hs => ?_) | refine y'5 ‹_› ?_ | refine y'6 ‹_› ?_) | ((with_reducible apply y'o); (· first | exact g0 | exact g1)) | ((with_reducible refine y'p ?_ ?_); (· rfl)) | ((with_reducible refine y'q ?_ ?_); (· rfl)) | fail) <;> (conv => whnf))
          exact ⟨L.length - (a + q), by omega, Into.weak [0, 1, 2, 5] [(0, .a (.str s)), (2, .a (.ptr 0 0)), (3, .a (.ptr 1 0)), (4, .a (.ptr 2 0))] [.cells [.int .u8 0, .bool false, .nils, .nils, .nils] 57 false, .cells [.int .u8 (hb.toNat : Int), .bool false, .nils, .nils, .slc 3 0 (n + 1) cap'] 57 false, .cells [.str s, .int .i64 ((a + q : Nat) : Int), .int .i64 0] 102 false, .cells rs2 21 false] ⟨a + q, n + 1, cap', false, Ls ++ [r], List.replicate (cap' - (n + 1)) 0, rs2, hR2, rfl, hrs2, by rw [List.length_append, List.length_singleton, hn], by rw [List.length_replicate]; omega, rfl, rfl⟩ ⟨rfl, rfl, rfl, rfl, trivial⟩ ⟨rfl, rfl, congrArg (fun z => some (Ob.cells [.str s, .int .i64 z, .int .i64 0] 102 false)) hw, ren_pl hp2 _ _ _, trivial⟩ (by simp [nodupb, baseb, Ob.okb, frmOk, V.okb, A.okb, hp2.2] <;> decide)⟩
      · have hk := hKz a Ls hR ha hd
        have d3 : (((0 : Nat) : Int) == 0) = true := rfl
        conv => whnf
        repeat' ((first | ((with_reducible refine y'r ?_ ?_); (· decide +kernel)) | ((with_reducible refine y'g ?_ ?_); (· exact ⟨_, rfl⟩)) | (with_reducible first | refine y'b ‹_› ?_ | refine y'n ‹_› ?_ | refine y'1 ‹_› ?_ | refine y'2 ‹_› ?_ | refine y'3 ?_ | refine y'4 ?_) | ((with_reducible refine y'n ?_ ?_); (· first | assumption | exact decide_eq_true (by omega) | decide +kernel)) | ((with_reducible refine y'b ?_ ?_); (· assumption)) | (with_reducible first | refine y'n (y'7 ‹_› ‹_›) ?_ | refine y'v (y'8 ‹_› ‹_›) (fun s hs => ?_) | refine y'5 ‹_› ?_ | refine y'6 ‹_› ?_) | ((with_reducible apply y'o); (· first | exact g0 | exact g1)) | ((with_reducible refine y'p ?_ ?_); (· rfl)) | ((with_reducible refine y'q ?_ ?_); (· rfl)) | fail) <;> (conv => whnf))
        exact keepOf (v₀ := .g [.int .u8 0, .bool false, .nils, .nils, .nils]) [] [] rfl trivial rfl hk
    · have d1 : decide ((a : Int) < (s.size : Int)) = false := decide_eq_false (by omega)
      have hG := key a Ls hR (by omega)
      clear g1
      conv => whnf
      repeat' ((first | ((with_reducible refine y'r ?_ ?_); (· decide +kernel)) | ((with_reducible refine y'g ?_ ?_); (· exact ⟨_, rfl⟩)) | (with_reducible first | refine y'b ‹_› ?_ | refine y'n ‹_› ?_ | refine y'1 ‹_› ?_ | refine y'2 ‹_› ?_ | refine y'3 ?_ | refine y'4 ?_) | ((with_reducible refine y'n ?_ ?_); (· first | assumption | exact decide_eq_true (by omega) | decide +kernel)) | ((with_reducible refine y'b ?_ ?_); (· assumption)) | (with_reducible first | refine y'n (y'7 ‹_› ‹_›) ?_ | refine y'v (y'8 ‹_› ‹_›) (fun s hs => ?_) | refine y'5 ‹_› ?_ | refine y'6 ‹_› ?_) | ((with_reducible apply y'o); (· first | exact g0 | exact g1)) | ((with_reducible refine y'p ?_ ?_); (· rfl)) | ((with_reducible refine y'q ?_ ?_); (· rfl)) | fail) <;> (conv => whnf))
      refine cutx_of (TJ K hb L s) ?_ ?_
      · refine Into.ghost 4 [(0, .a (.str s)), (2, .a (.ptr 0 0)), (3, .a (.ptr 1 0)), (4, .a (.ptr 2 0))] [.cells [.int .u8 0, .bool false, .nils, .nils, .nils] 57 false, .cells [.int .u8 (hb.toNat : Int), .bool false, .slc 4 0 0 0, .nils, .slc 3 0 n c] 57 false, .cells [.str s, .int .i64 (a : Int), .int .i64 0] 102 false, .cells rs 21 mk, .cells [] 23 false] rfl ⟨rfl, rfl, rfl, rfl, trivial⟩ ⟨rfl, rfl, rfl, ung_pl hp.1 _ _ _, rfl, trivial⟩ (by simp [Ob.okb, frmOk, V.okb, A.okb, hp.2] <;> decide) ?_
        exact Into.weak [0, 1, 2, 4, 3] _ [.cells [.int .u8 0, .bool false, .nils, .nils, .nils] 57 false, .cells [.int .u8 (hb.toNat : Int), .bool false, .slc 3 0 0 0, .nils, .slc 4 0 n c] 57 false, .cells [.str s, .int .i64 (a : Int), .int .i64 0] 102 false, .cells [] 23 false, .cells rs 21 mk] ⟨false, [], [], Ls, X, [], rs, 0, 0, n, c, false, mk, a, 0, hG, f64s_nil.symm, rfl, by decide, (fun v hv => by cases hv), hrs, hn, by omega, rfl, rfl⟩ ⟨rfl, rfl, rfl, rfl, trivial⟩ ⟨rfl, rfl, rfl, rfl, ren_pl hp _ _ _, trivial⟩ (by simp [nodupb, baseb, Ob.okb, frmOk, V.okb, A.okb, hp.2] <;> decide)
      · skip
        rintro F H ⟨on, vs, Y, Ls, X, fs, rs, n1, c1, n, c, mk1, mk, a, e, ⟨hK0', hR, hK1'⟩, hfs, hn1, hn19, hV, hrs, hn, hn9, rfl, rfl⟩
        have hp := i32s_pl hrs
        have hfp := f64s_pl hfs
        by_cases he : e = 0
        · have c2 : (e != 0) = false := by simp [he]
          conv => whnf
          repeat' ((first | ((with_reducible refine y'r ?_ ?_); (· decide +kernel)) | ((with_reducible refine y'g ?_ ?_); (· exact ⟨_, rfl⟩)) | (with_reducible first | refine y'b ‹_› ?_ | refine y'n ‹_› ?_ | refine y'1 ‹_› ?_ | refine y'2 ‹_› ?_ | refine y'3 ?_ | refine y'4 ?_) | ((with_reducible refine y'n ?_ ?_); (· first | assumption | exact decide_eq_true (by omega) | decide +kernel)) | ((with_reducible refine y'b ?_ ?_); (· assumption)) | (with_reducible first | refine y'n (y'7 ‹_› ‹_›) ?_ | refine y'v (y'8 ‹_› ‹_›) (fun s hs => ?_) | refine y'5 ‹_› ?_ | refine y'6 ‹_› ?_) | ((with_reducible apply y'o); (· first | exact g0 | exact g1)) | ((with_reducible refine y'p ?_ ?_); (· rfl)) | ((with_reducible refine y'q ?_ ?_); (· rfl)) | fail) <;> (conv => whnf))
          refine Fn.frame [3, 4] (by rfl) (by exact ⟨ren_pl hfp _ _ _, ren_pl hp _ _ _, trivial⟩) (by simp [nodupb, V.okb, A.okb, Ob.okb, hfp.2, hp.2] <;> decide) (rightX (hb.toNat : Int) on Ls X fs rs n1 c1 n c mk1 mk hfp hrs hn hn9 ?_)
          cases hg : rgR (-1) Ls with
          | false =>
            have hk := hK0' (fun h => by rw [h.2.1] at hg; cases hg)
            conv => whnf
            repeat' ((first | ((with_reducible refine y'r ?_ ?_); (· decide +kernel)) | ((with_reducible refine y'g ?_ ?_); (· exact ⟨_, rfl⟩)) | (with_reducible first | refine y'b ‹_› ?_ | refine y'n ‹_› ?_ | refine y'1 ‹_› ?_ | refine y'2 ‹_› ?_ | refine y'3 ?_ | refine y'4 ?_) | ((with_reducible refine y'n ?_ ?_); (· first | assumption | exact decide_eq_true (by omega) | decide +kernel)) | ((with_reducible refine y'b ?_ ?_); (· assumption)) | (with_reducible first | refine y'n (y'7 ‹_› ‹_›) ?_ | refine y'v (y'8 ‹_› ‹_›) (fun s hs => ?_) | refine y'5 ‹_› ?_ | refine y'6 ‹_› ?_) | ((with_reducible apply y'o); (· first | exact g0 | exact g1)) | ((with_reducible refine y'p ?_ ?_); (· rfl)) | ((with_reducible refine y'q ?_ ?_); (· rfl)) | fail) <;> (conv => whnf))
            exact keepOf (v₀ := .g [.int .u8 0, .bool false, .nils, .nils, .nils]) [] [] rfl trivial rfl hk
          | true =>
            conv => whnf
            repeat' ((first | ((with_reducible refine y'r ?_ ?_); (· decide +kernel)) | ((with_reducible refine y'g ?_ ?_); (· exact ⟨_, rfl⟩)) | (with_reducible first | refine y'b ‹_› ?_ | refine y'n ‹_› ?_ | refine y'1 ‹_› ?_ | refine y'2 ‹_› ?_ | refine y'3 ?_ | refine y'4 ?_) | ((with_reducible refine y'n ?_ ?_); (· first | assumption | exact decide_eq_true (by omega) | decide +kernel)) | ((with_reducible refine y'b ?_ ?_); (· assumption)) | (with_reducible first | refine y'n (y'7 ‹_› ‹_›) ?_ | refine y'v (y'8 ‹_› ‹_›) (fun s hs => ?_) | refine y'5 ‹_› ?_ | refine y'6 ‹_› ?_) | ((with_reducible apply y'o); (· first | exact g0 | exact g1)) | ((with_reducible refine y'p ?_ ?_); (· rfl)) | ((with_reducible refine y'q ?_ ?_); (· rfl)) | fail) <;> (conv => whnf))
            refine Fn.frame [3, 4] (by rfl) (by exact ⟨ren_pl hfp _ _ _, ren_pl hp _ _ _, trivial⟩) (by simp [nodupb, V.okb, A.okb, Ob.okb, hfp.2, hp.2] <;> decide) (toldX hb on vs Y Ls X fs rs n1 c1 n c mk1 mk hfs hn1 hn19 hV hrs hn hn9 (hR hg) ?_)
            by_cases hq : [hb] ++ onB hb on ++ flF vs ++ flat Ls = L
            · have hk := hK1' fs rs Y X n1 c1 n c mk1 mk ⟨he, hg, hq⟩ hfs hn1 hrs hn
              have hs3 : (!((bs ([hb] ++ onB hb on ++ flF vs ++ flat Ls)).data.toList == s.data.toList)) = false := by rw [hq, hs]; simp
              generalize bs ([hb] ++ onB hb on ++ flF vs ++ flat Ls) = told at *
              conv => whnf
              repeat' ((first | ((with_reducible refine y'r ?_ ?_); (· decide +kernel)) | ((with_reducible refine y'g ?_ ?_); (· exact ⟨_, rfl⟩)) | (with_reducible first | refine y'b ‹_› ?_ | refine y'n ‹_› ?_ | refine y'1 ‹_› ?_ | refine y'2 ‹_› ?_ | refine y'3 ?_ | refine y'4 ?_) | ((with_reducible refine y'n ?_ ?_); (· first | assumption | exact decide_eq_true (by omega) | decide +kernel)) | ((with_reducible refine y'b ?_ ?_); (· assumption)) | (with_reducible first | refine y'n (y'7 ‹_› ‹_›) ?_ | refine y'v (y'8 ‹_› ‹_›) (fun s hs => ?_) | refine y'5 ‹_› ?_ | refine y'6 ‹_› ?_) | ((with_reducible apply y'o); (· first | exact g0 | exact g1)) | ((with_reducible refine y'p ?_ ?_); (· rfl)) | ((with_reducible refine y'q ?_ ?_); (· rfl)) | fail) <;> (conv => whnf))
              exact keepOf (v₀ := .g [.int .u8 (hb.toNat : Int), .bool on, .slc 0 0 n1 c1, .nils, .slc 1 0 n c]) [.cells fs 23 mk1, .cells rs 21 mk] [3, 4] rfl ⟨ren_pl hfp _ _ _, ren_pl hp _ _ _, trivial⟩ (by simp [nodupb, baseb, Ob.okb, frmOk, V.okb, A.okb, hp.2, hfp.2] <;> decide) hk
            · have hk := hK0' (fun h => hq h.2.2)
              have hs3 : (!((bs ([hb] ++ onB hb on ++ flF vs ++ flat Ls)).data.toList == s.data.toList)) = true := by rw [hs, beqL, decide_eq_false hq]; rfl
              generalize bs ([hb] ++ onB hb on ++ flF vs ++ flat Ls) = told at *
              conv => whnf
              repeat' ((first | ((with_reducible refine y'r ?_ ?_); (· decide +kernel)) | ((with_reducible refine y'g ?_ ?_); (· exact ⟨_, rfl⟩)) | (with_reducible first | refine y'b ‹_› ?_ | refine y'n ‹_› ?_ | refine y'1 ‹_› ?_ | refine y'2 ‹_› ?_ | refine y'3 ?_ | refine y'4 ?_) | ((with_reducible refine y'n ?_ ?_); (· first | assumption | exact decide_eq_true (by omega) | decide +kernel)) | ((with_reducible refine y'b ?_ ?_); (· assumption)) | (with_reducible first | refine y'n (y'7 ‹_› ‹_›) ?_ | refine y'v (y'8 ‹_› ‹_›) (fun s hs => ?_) | refine y'5 ‹_› ?_ | refine y'6 ‹_› ?_) | ((with_reducible apply y'o); (· first | exact g0 | exact g1)) | ((with_reducible refine y'p ?_ ?_); (· rfl)) | ((with_reducible refine y'q ?_ ?_); (· rfl)) | fail) <;> (conv => whnf))
              exact keepOf (v₀ := .g [.int .u8 0, .bool false, .nils, .nils, .nils]) [] [] rfl trivial rfl hk
        · have c2 : (e != 0) = true := by simp [he]
          have hk := hK0' (fun h => he h.1)
          conv => whnf
          repeat' ((first | ((with_reducible refine y'r ?_ ?_); (· decide +kernel)) | ((with_reducible refine y'g ?_ ?_); (· exact ⟨_, rfl⟩)) | (with_reducible first | refine y'b ‹_› ?_ | refine y'n ‹_› ?_ | refine y'1 ‹_› ?_ | refine y'2 ‹_› ?_ | refine y'3 ?_ | refine y'4 ?_) | ((with_reducible refine y'n ?_ ?_); (· first | assumption | exact decide_eq_true (by omega) | decide +kernel)) | ((with_reducible refine y'b ?_ ?_); (· assumption)) | (with_reducible first | refine y'n (y'7 ‹_› ‹_›) ?_ | refine y'v (y'8 ‹_› ‹_›) (fun s hs => ?_) | refine y'5 ‹_› ?_ | refine y'6 ‹_› ?_) | ((with_reducible apply y'o); (· first | exact g0 | exact g1)) | ((with_reducible refine y'p ?_ ?_); (· rfl)) | ((with_reducible refine y'q ?_ ?_); (· rfl)) | fail) <;> (conv => whnf))
          exact keepOf (v₀ := .g [.int .u8 0, .bool false, .nils, .nils, .nils]) [] [] rfl trivial rfl hk
end
end Go.Proofs.YtimddbgnaeeggaaDoor.KD
