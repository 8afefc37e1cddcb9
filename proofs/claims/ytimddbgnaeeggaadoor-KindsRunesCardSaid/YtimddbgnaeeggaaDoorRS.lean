import Derived.Test.YtimddbgnaeeggaaDoorRQ
import Derived.Test.YtimddbgnaeeggaaDoorKN
namespace Go.Proofs.YtimddbgnaeeggaaDoor.KD
open Go.Eng
set_option maxRecDepth 100000
theorem i32_in {cs : List A} {L y : List Nat} {v : Int} {x n S : Nat} (hcs : cs = i32s (L ++ y)) (hn : n = L.length) (hS : S = 1) (hy : 0 < y.length) (hv : v = (x : Int)) :
    storeL cs (0 + n * S) (List.drop 0 (List.take (0 + 1 * S) [.int .i32 v])) = i32s (L ++ [x] ++ y.tail) := by
  subst hS hcs hn hv
  simp only [Nat.zero_add, Nat.mul_one, List.take_succ_cons, List.take_zero, List.drop_zero]
  cases y with
  | nil => simp at hy
  | cons a y =>
    unfold i32s
    simp [storeL]
theorem i32_new {cs : List A} {L y : List Nat} {v : Int} {x n S c : Nat} {z : A} (hcs : cs = i32s (L ++ y)) (hn : n = L.length) (hS : S = 1) (hz : z = .int .i32 0) (hv : v = (x : Int)) :
    List.drop 0 (List.take (0 + n * S) cs) ++ List.drop 0 (List.take (0 + 1 * S) [.int .i32 v]) ++ repl [z] ((c - (n + 1)) * S) = i32s (L ++ [x] ++ List.replicate (c - (n + 1)) 0) := by
  subst hS hcs hn hz hv
  simp only [Nat.zero_add, Nat.mul_one, List.take_succ_cons, List.take_zero, List.drop_zero]
  unfold i32s
  simp [repl]
theorem b21 : Tryd.prog.types[21].bytes = 4 := rfl
theorem b23 : Tryd.prog.types[23].bytes = 8 := rfl
theorem rgR_iff : ∀ (L : List Nat) (last : Int), rgR last L = true ↔ AllV L ∧ (∀ r ∈ L, last < (r : Int)) ∧ Rise L
  | [], last => ⟨fun _ => ⟨(fun _ h => by cases h), (fun _ h => by cases h), List.Pairwise.nil⟩, fun _ => rfl⟩
  | r :: L, last => by
    have ih := rgR_iff L (r : Int)
    show (if vrI (r : Int) = false ∨ (r : Int) ≤ last then false else rgR (r : Int) L) = true ↔ _
    rw [vrI_nat]
    constructor
    · intro h
      split at h
      · cases h
      · rename_i hh
        obtain ⟨h1, h2, h3⟩ := ih.1 h
        have hv : vr r := by
          apply Classical.byContradiction
          intro hn
          exact hh (.inl (decide_eq_false hn))
        have hl : last < (r : Int) := by
          apply Classical.byContradiction
          intro hn
          exact hh (.inr (by omega))
        refine ⟨?_, ?_, List.pairwise_cons.2 ⟨fun x hx => by have := h2 x hx; omega, h3⟩⟩
        · intro x hx
          rcases List.mem_cons.1 hx with rfl | hx
          · exact hv
          · exact h1 x hx
        · intro x hx
          rcases List.mem_cons.1 hx with rfl | hx
          · exact hl
          · have := h2 x hx; omega
    · rintro ⟨h1, h2, h3⟩
      have hr : vr r := h1 r (by simp)
      have hl := h2 r (by simp)
      rw [if_neg (by rw [decide_eq_true hr]; simp; omega)]
      exact ih.2 ⟨fun x hx => h1 x (by simp [hx]), fun x hx => by have := (List.pairwise_cons.1 h3).1 x hx; omega, (List.pairwise_cons.1 h3).2⟩
theorem rgR_all {L : List Nat} (h : rgR (-1) L = true) : AllV L ∧ Rise L := ⟨((rgR_iff L _).1 h).1, ((rgR_iff L _).1 h).2.2⟩
theorem rgR_of {L : List Nat} (h : AllV L) (h' : Rise L) : rgR (-1) L = true := (rgR_iff L _).2 ⟨h, fun r _ => by omega, h'⟩
theorem vr_lt {L : List Nat} (h : AllV L) : ∀ r ∈ L, r < 1114112 := fun r hr => by
  have := h r hr
  unfold vr at this
  omega
/-- What the end of Apart makes of what was read. -/
def Goal (K : V → Hp → Prop) (hb : UInt8) (L : List UInt8) (on : Bool) (vs Ls : List Nat) (e : Int) : Prop :=
  (¬ (e = 0 ∧ rgR (-1) Ls = true ∧ [hb] ++ onB hb on ++ flF vs ++ flat Ls = L) → K (.g [.int .u8 0, .bool false, .nils, .nils, .nils]) []) ∧
  (rgR (-1) Ls = true → ∀ r ∈ Ls, r < 1114112) ∧
  ∀ fs rs Y X n1 c1 n c mk1 mk, (e = 0 ∧ rgR (-1) Ls = true ∧ [hb] ++ onB hb on ++ flF vs ++ flat Ls = L) → fs = f64s (vs ++ Y) → n1 = vs.length → rs = i32s (Ls ++ X) → n = Ls.length →
    K (.g [.int .u8 (hb.toNat : Int), .bool on, .slc 0 0 n1 c1, .nils, .slc 1 0 n c]) [.cells fs 23 mk1, .cells rs 21 mk]
def TJ (K : V → Hp → Prop) (hb : UInt8) (L : List UInt8) (s : ByteArray) (F : Frm) (H : Hp) : Prop :=
  ∃ (on : Bool) (vs Y Ls X : List Nat) (fs rs : List A) (n1 c1 n c : Nat) (mk1 mk : Bool) (a : Nat) (e : Int), Goal K hb L on vs Ls e ∧ fs = f64s (vs ++ Y) ∧ n1 = vs.length ∧ n1 ≤ 9 ∧ (∀ v ∈ vs, v < 18446744073709551616) ∧ rs = i32s (Ls ++ X) ∧ n = Ls.length ∧ n ≤ 1000 ∧
    F = [(0, .a (.str s)), (2, .a (.ptr 0 0)), (3, .a (.ptr 1 0)), (4, .a (.ptr 2 0))] ∧
    H = [.cells [.int .u8 0, .bool false, .nils, .nils, .nils] 57 false, .cells [.int .u8 (hb.toNat : Int), .bool on, .slc 3 0 n1 c1, .nils, .slc 4 0 n c] 57 false, .cells [.str s, .int .i64 (a : Int), .int .i64 e] 102 false, .cells fs 23 mk1, .cells rs 21 mk]
theorem f64s_nil : f64s [] = [] := by unfold f64s; rfl
theorem flat_n (L : List UInt8) : L ++ flat [] = L := by rw [flat_nil, List.append_nil]
theorem flF_nil : flF [] = [] := rfl
theorem rgR_n : rgR (-1) [] = true := rfl
section
variable {ro : Addr → A → Prop}
set_option maxHeartbeats 1000000 in
theorem apartN {K : V → Hp → Prop} (hK0 : K (.g [.int .u8 0, .bool false, .nils, .nils, .nils]) []) : Go.Eng.Fn Tryd.prog ro 32 [.a (.str (bs []))] [] K := by
  refine Fn.weak ?_
  refine Fn.of_code h32 Tryd.func32 rfl (Nat.le_of_ble_eq_true rfl) ?_
  have c0 : ((bs []).data.toList == ([] : List UInt8)) = true := by rfl
  have g0 := True.intro
  have g1 := True.intro
  generalize bs [] = s at *
  conv => whnf
  repeat' ((first | ((with_reducible refine y'r ?_ ?_); (· decide +kernel)) | ((with_reducible refine y'g ?_ ?_); (· exact ⟨_, rfl⟩)) | (with_reducible first | refine y'b ‹_› ?_ | refine y'n ‹_› ?_ | refine y'1 ‹_› ?_ | refine y'2 ‹_› ?_ | refine y'3 ?_ | refine y'4 ?_) | ((with_reducible refine y'n ?_ ?_); (· first | assumption | exact decide_eq_true (by omega) | decide +kernel)) | ((with_reducible refine y'b ?_ ?_); (· assumption)) | (with_reducible first | refine y'n (y'7 ‹_› ‹_›) ?_ | refine y'v (y'8 ‹_› ‹_›) (fun s hs => ?_) | refine y'5 ‹_› ?_ | refine y'6 ‹_› ?_) | ((with_reducible apply y'o); (· first | exact g0 | exact g1)) | ((with_reducible refine y'p ?_ ?_); (· rfl)) | ((with_reducible refine y'q ?_ ?_); (· rfl)) | fail) <;> (conv => whnf))
  exact keepOf (v₀ := .g [.int .u8 0, .bool false, .nils, .nils, .nils]) [] [] rfl trivial rfl hK0
set_option maxHeartbeats 1000000 in
theorem apartB (L : List UInt8) (h40 : 40 < L.length) {K : V → Hp → Prop} (hK0 : K (.g [.int .u8 0, .bool false, .nils, .nils, .nils]) []) : Go.Eng.Fn Tryd.prog ro 32 [.a (.str (bs L))] [] K := by
  have hsz := bs_size L
  have c0 : ((bs L).data.toList == ([] : List UInt8)) = false := by
    cases L with
    | nil => simp at h40
    | cons x L => rfl
  have c1 : decide (((bs L).size : Int) > 40) = true := decide_eq_true (by omega)
  have g0 := True.intro
  have g1 := True.intro
  refine Fn.weak ?_
  refine Fn.of_code h32 Tryd.func32 rfl (Nat.le_of_ble_eq_true rfl) ?_
  generalize bs L = s at *
  conv => whnf
  repeat' ((first | ((with_reducible refine y'r ?_ ?_); (· decide +kernel)) | ((with_reducible refine y'g ?_ ?_); (· exact ⟨_, rfl⟩)) | (with_reducible first | refine y'b ‹_› ?_ | refine y'n ‹_› ?_ | refine y'1 ‹_› ?_ | refine y'2 ‹_› ?_ | refine y'3 ?_ | refine y'4 ?_) | ((with_reducible refine y'n ?_ ?_); (· first | assumption | exact decide_eq_true (by omega) | decide +kernel)) | ((with_reducible refine y'b ?_ ?_); (· assumption)) | (with_reducible first | refine y'n (y'7 ‹_› ‹_›) ?_ | refine y'v (y'8 ‹_› ‹_›) (fun s hs => ?_) | refine y'5 ‹_› ?_ | refine y'6 ‹_› ?_) | ((with_reducible apply y'o); (· first | exact g0 | exact g1)) | ((with_reducible refine y'p ?_ ?_); (· rfl)) | ((with_reducible refine y'q ?_ ?_); (· rfl)) | fail) <;> (conv => whnf))
  exact keepOf (v₀ := .g [.int .u8 0, .bool false, .nils, .nils, .nils]) [] [] rfl trivial rfl hK0
set_option maxHeartbeats 1000000 in
theorem apartH (b : UInt8) (T : List UInt8) (hT : T.length ≤ 39) (h1 : b ≠ 1) (h2 : b ≠ 2) (h3 : b ≠ 3) (h4 : b ≠ 4) (h5 : b ≠ 5) {K : V → Hp → Prop} (hK0 : K (.g [.int .u8 0, .bool false, .nils, .nils, .nils]) []) :
    Go.Eng.Fn Tryd.prog ro 32 [.a (.str (bs (b :: T)))] [] K := by
  have hsz := bs_size (b :: T)
  rw [List.length_cons] at hsz
  have g0 : byteAt (bs (b :: T)) 0 = some b := byteAt_bs (i := 0) rfl
  have g1 := True.intro
  have c0 : ((bs (b :: T)).data.toList == ([] : List UInt8)) = false := rfl
  have c1 : decide (((bs (b :: T)).size : Int) > 40) = false := decide_eq_false (by omega)
  generalize bs (b :: T) = s at *
  have hb := b.toNat_lt
  have ne : ∀ n : UInt8, b ≠ n → ((b.toNat : Int) == (n.toNat : Int)) = false := fun n h => by
    simp only [beq_eq_false_iff_ne, ne_eq]
    intro e
    exact h (UInt8.toNat_inj.1 (by omega))
  have n1 : ((b.toNat : Int) == 1) = false := ne 1 h1
  have n2 : ((b.toNat : Int) == 2) = false := ne 2 h2
  have n3 : ((b.toNat : Int) == 3) = false := ne 3 h3
  have n4 : ((b.toNat : Int) == 4) = false := ne 4 h4
  have n5 : ((b.toNat : Int) == 5) = false := ne 5 h5
  clear ne
  refine Fn.weak ?_
  refine Fn.of_code (cutAt [18, 26] h32) Tryd.func32 rfl (Nat.le_of_ble_eq_true rfl) ?_
  conv => whnf
  repeat' ((first | ((with_reducible refine y'r ?_ ?_); (· decide +kernel)) | ((with_reducible refine y'g ?_ ?_); (· exact ⟨_, rfl⟩)) | (with_reducible first | refine y'b ‹_› ?_ | refine y'n ‹_› ?_ | refine y'1 ‹_› ?_ | refine y'2 ‹_› ?_ | refine y'3 ?_ | refine y'4 ?_) | ((with_reducible refine y'n ?_ ?_); (· first | assumption | exact decide_eq_true (by omega) | decide +kernel)) | ((with_reducible refine y'b ?_ ?_); (· assumption)) | (with_reducible first | refine y'n (y'7 ‹_› ‹_›) ?_ | refine y'v (y'8 ‹_› ‹_›) (fun s hs => ?_) | refine y'5 ‹_› ?_ | refine y'6 ‹_› ?_) | ((with_reducible apply y'o); (· first | exact g0 | exact g1)) | ((with_reducible refine y'p ?_ ?_); (· rfl)) | ((with_reducible refine y'q ?_ ?_); (· rfl)) | fail) <;> (conv => whnf))
  exact keepOf (v₀ := .g [.int .u8 0, .bool false, .nils, .nils, .nils]) [] [] rfl trivial rfl hK0
set_option maxHeartbeats 2000000 in
theorem apart1 (T : List UInt8) (hT : T.length ≤ 39) {K : V → Hp → Prop} (hK0 : ¬ IsVa (1 :: T) → K (.g [.int .u8 0, .bool false, .nils, .nils, .nils]) [])
    (hK1 : ∀ b fs rs Y X n1 c1 n c mk1 mk, 1 :: T = (Va.flag b).bytes → fs = f64s ([] ++ Y) → n1 = 0 → rs = i32s ([] ++ X) → n = 0 → K (.g [.int .u8 1, .bool b, .slc 0 0 n1 c1, .nils, .slc 1 0 n c]) [.cells fs 23 mk1, .cells rs 21 mk]) :
    Go.Eng.Fn Tryd.prog ro 32 [.a (.str (bs (1 :: T)))] [] K := by
  have key : ∀ t ok a e, tk (1 :: T) 1 0 1 = (t, ok, a, e) → Goal K 1 (1 :: T) (((UInt8.ofNat (hiN t)).toNat : Int) == 1) [] [] e := by
    intro t ok a e ht
    cases T with
    | nil =>
      rw [tk_short (by simp)] at ht
      obtain ⟨rfl, rfl, rfl, rfl⟩ : [] = t ∧ false = ok ∧ 1 = a ∧ 10 = e := by simpa using ht
      exact ⟨fun _ => hK0 (fun h => by rcases isVa_1 h with h | h <;> cases h), (fun _ r hr => by cases hr), (fun _ _ _ _ _ _ _ _ _ _ h => by have := h.1; omega)⟩
    | cons x R =>
      rw [tk_ok (by simp)] at ht
      obtain ⟨rfl, rfl, rfl, rfl⟩ : [x] = t ∧ true = ok ∧ 2 = a ∧ 0 = e := by simpa using ht
      have hx1 : (UInt8.ofNat (hiN [x])).toNat = x.toNat := by rw [hiN_cons, hiN_nil]; simp
      rw [hx1]
      have hP : [1] ++ onB 1 ((x.toNat : Int) == 1) ++ flF [] ++ flat [] = [1, if ((x.toNat : Int) == 1) = true then 1 else 0] := by rw [flF_nil, flat_nil]; rfl
      refine ⟨fun hn => hK0 (fun h => hn ⟨rfl, rfl, ?_⟩), (fun _ r hr => by cases hr), fun fs rs Y X n1 c1 n c mk1 mk h hfs hn1 hrs hn => hK1 _ fs rs Y X n1 c1 n c mk1 mk ?_ hfs hn1 hrs hn⟩
      · rw [hP]
        rcases isVa_1 h with h | h
        · injection h with h1 h2; subst h1 h2; rfl
        · injection h with h1 h2; subst h1 h2; rfl
      · rw [← h.2.2, hP]; rfl
  clear hK0 hK1
  obtain ⟨hb, hhb⟩ : ∃ b : UInt8, b = 1 := ⟨_, rfl⟩
  have n1 : ((hb.toNat : Int) == 1) = true := by rw [hhb]; rfl
  rw [← hhb] at key ⊢
  obtain ⟨L, hL⟩ : ∃ L, L = hb :: T := ⟨_, rfl⟩
  rw [← hL] at key ⊢
  have hLl : L.length = T.length + 1 := by rw [hL]; rfl
  have hsz := bs_size L
  have g0 : byteAt (bs L) 0 = some hb := by rw [hL]; exact byteAt_bs (i := 0) rfl
  have c0 : ((bs L).data.toList == ([] : List UInt8)) = false := by rw [hL]; rfl
  have c1 : decide (((bs L).size : Int) > 40) = false := decide_eq_false (by omega)
  refine Fn.weak ?_
  refine Fn.of_code (cutAt [18, 26] h32) Tryd.func32 rfl (Nat.le_of_ble_eq_true rfl) ?_
  obtain ⟨s, hs⟩ : ∃ s, s = bs L := ⟨_, rfl⟩
  rw [← hs] at hsz g0 c0 c1 ⊢
  have g1 := True.intro
  conv => whnf
  repeat' ((first | ((with_reducible refine y'r ?_ ?_); (· decide +kernel)) | ((with_reducible refine y'g ?_ ?_); (· exact ⟨_, rfl⟩)) | (with_reducible first | refine y'b ‹_› ?_ | refine y'n ‹_› ?_ | refine y'1 ‹_› ?_ | refine y'2 ‹_› ?_ | refine y'3 ?_ | refine y'4 ?_) | ((with_reducible refine y'n ?_ ?_); (· first | assumption | exact decide_eq_true (by omega) | decide +kernel)) | ((with_reducible refine y'b ?_ ?_); (· assumption)) | (with_reducible first | refine y'n (y'7 ‹_› ‹_›) ?_ | refine y'v (y'8 ‹_› ‹_›) (fun s hs => ?_) | refine y'5 ‹_› ?_ | refine y'6 ‹_› ?_) | ((with_reducible apply y'o); (· first | exact g0 | exact g1)) | ((with_reducible refine y'p ?_ ?_); (· rfl)) | ((with_reducible refine y'q ?_ ?_); (· rfl)) | fail) <;> (conv => whnf))
  rw [hs]
  refine Fn.frame [2] (by rfl) (by exact ⟨rfl, trivial⟩) (by rfl) (rrbyte L 1 0 (by omega) (by omega) (fun t ok a e ht => ?_))
  have hG := key t ok a e ht
  rw [← hs]
  generalize ((UInt8.ofNat (hiN t)).toNat : Int) = x at *
  obtain ⟨on, hon⟩ : ∃ on, on = (x == 1) := ⟨_, rfl⟩
  rw [← hon] at hG
  conv => whnf
  repeat' ((first | ((with_reducible refine y'r ?_ ?_); (· decide +kernel)) | ((with_reducible refine y'g ?_ ?_); (· exact ⟨_, rfl⟩)) | (with_reducible first | refine y'b ‹_› ?_ | refine y'n ‹_› ?_ | refine y'1 ‹_› ?_ | refine y'2 ‹_› ?_ | refine y'3 ?_ | refine y'4 ?_) | ((with_reducible refine y'n ?_ ?_); (· first | assumption | exact decide_eq_true (by omega) | decide +kernel)) | ((with_reducible refine y'b ?_ ?_); (· assumption)) | (with_reducible first | refine y'n (y'7 ‹_› ‹_›) ?_ | refine y'v (y'8 ‹_› ‹_›) (fun s hs => ?_) | refine y'5 ‹_› ?_ | refine y'6 ‹_› ?_) | ((with_reducible apply y'o); (· first | exact g0 | exact g1)) | ((with_reducible refine y'p ?_ ?_); (· rfl)) | ((with_reducible refine y'q ?_ ?_); (· rfl)) | fail) <;> (conv => whnf))
  rw [← hon]
  refine cutx_of (TJ K hb L s) ?_ ?_
  · refine Into.ghost 3 [(0, .a (.str s)), (2, .a (.ptr 0 0)), (3, .a (.ptr 1 0)), (4, .a (.ptr 2 0))] [.cells [.int .u8 0, .bool false, .nils, .nils, .nils] 57 false, .cells [.int .u8 (hb.toNat : Int), .bool on, .slc 3 0 0 0, .nils, .slc 4 0 0 0] 57 false, .cells [.str s, .int .i64 (a : Int), .int .i64 e] 102 false, .cells [] 23 false, .cells [] 21 false] rfl ⟨rfl, rfl, rfl, rfl, trivial⟩ ⟨rfl, rfl, rfl, rfl, rfl, trivial⟩ (by simp [Ob.okb, frmOk, V.okb, A.okb] <;> decide) ?_
    exact Into.weak [0, 1, 2, 3, 4] _ [.cells [.int .u8 0, .bool false, .nils, .nils, .nils] 57 false, .cells [.int .u8 (hb.toNat : Int), .bool on, .slc 3 0 0 0, .nils, .slc 4 0 0 0] 57 false, .cells [.str s, .int .i64 (a : Int), .int .i64 e] 102 false, .cells [] 23 false, .cells [] 21 false] ⟨on, [], [], [], [], [], [], 0, 0, 0, 0, false, false, a, e, hG, f64s_nil.symm, rfl, by decide, (fun v hv => by cases hv), i32s_nil.symm, rfl, by decide, rfl, rfl⟩ ⟨rfl, rfl, rfl, rfl, trivial⟩ ⟨rfl, rfl, rfl, rfl, rfl, trivial⟩ (by simp [nodupb, baseb, Ob.okb, frmOk, V.okb, A.okb] <;> decide)
  · skip
    rintro F H ⟨on, vs, Y, Ls, X, fs, rs, n1, c1, n, c, mk1, mk, a, e, ⟨hK0', hR, hK1'⟩, hfs, hn1, hn19, hV, hrs, hn, hn9, rfl, rfl⟩
    have hp := i32s_pl hrs
    have hfp := f64s_pl hfs
    by_cases he : e = 0
    · have c2 : (e != 0) = false := by simp [he]
      conv => whnf
      repeat' ((first | ((with_reducible refine y'r ?_ ?_); (· decide +kernel)) | ((with_reducible refine y'g ?_ ?_); (· exact ⟨_, rfl⟩)) | (with_reducible first | refine y'b ‹_› ?_ | refine y'n ‹_› ?_ | refine y'1 ‹_› ?_ | refine y'2 ‹_› ?_ | refine y'3 ?_ | refine y'4 ?_) | ((with_reducible refine y'n ?_ ?_); (· first | assumption | exact decide_eq_true (by omega) | decide +kernel)) | ((with_reducible refine y'b ?_ ?_); (· assumption)) | (with_reducible first | refine y'n (y'7 ‹_› ‹_›) ?_ | refine y'v (y'8 ‹_› ‹_›) (fun s hs => ?_) | refine y'5 ‹_› ?_ | refine y'6 ‹_› ?_) | ((with_reducible apply y'o); (· first | exact g0 | exact g1)) | ((with_reducible refine y'p ?_ ?_); (· rfl)) | ((with_reducible refine y'q ?_ ?_); (· rfl)) | fail) <;> (conv => whnf))
      refine Fn.frame [3, 4] (by rfl) (by exact ⟨ren_pl hfp _ _ _, ren_pl hp _ _ _, trivial⟩) (by simp [nodupb, V.okb, A.okb, Ob.okb, hfp.2, hp.2] <;> decide) (rightX (hb.toNat : Int) on Ls X fs rs n1 c1 n c mk1 mk hfp hrs hn hn9 ?_)
      cases hg : rgR (-1) Ls with
      | false =>
        have hk := hK0' (fun h => by rw [h.2.1] at hg; cases hg)
        conv => whnf
        repeat' ((first | ((with_reducible refine y'r ?_ ?_); (· decide +kernel)) | ((with_reducible refine y'g ?_ ?_); (· exact ⟨_, rfl⟩)) | (with_reducible first | refine y'b ‹_› ?_ | refine y'n ‹_› ?_ | refine y'1 ‹_› ?_ | refine y'2 ‹_› ?_ | refine y'3 ?_ | refine y'4 ?_) | ((with_reducible refine y'n ?_ ?_); (· first | assumption | exact decide_eq_true (by omega) | decide +kernel)) | ((with_reducible refine y'b ?_ ?_); (· assumption)) | (with_reducible first | refine y'n (y'7 ‹_› ‹_›) ?_ | refine y'v (y'8 ‹_› ‹_›) (fun s hs => ?_) | refine y'5 ‹_› ?_ | refine y'6 ‹_› ?_) | ((with_reducible apply y'o); (· first | exact g0 | exact g1)) | ((with_reducible refine y'p ?_ ?_); (· rfl)) | ((with_reducible refine y'q ?_ ?_); (· rfl)) | fail) <;> (conv => whnf))
        exact keepOf (v₀ := .g [.int .u8 0, .bool false, .nils, .nils, .nils]) [] [] rfl trivial rfl hk
      | true =>
        conv => whnf
        repeat' ((first | ((with_reducible refine y'r ?_ ?_); (· decide +kernel)) | ((with_reducible refine y'g ?_ ?_); (· exact ⟨_, rfl⟩)) | (with_reducible first | refine y'b ‹_› ?_ | refine y'n ‹_› ?_ | refine y'1 ‹_› ?_ | refine y'2 ‹_› ?_ | refine y'3 ?_ | refine y'4 ?_) | ((with_reducible refine y'n ?_ ?_); (· first | assumption | exact decide_eq_true (by omega) | decide +kernel)) | ((with_reducible refine y'b ?_ ?_); (· assumption)) | (with_reducible first | refine y'n (y'7 ‹_› ‹_›) ?_ | refine y'v (y'8 ‹_› ‹_›) (fun s hs => ?_) | refine y'5 ‹_› ?_ | refine y'6 ‹_› ?_) | ((with_reducible apply y'o); (· first | exact g0 | exact g1)) | ((with_reducible refine y'p ?_ ?_); (· rfl)) | ((with_reducible refine y'q ?_ ?_); (· rfl)) | fail) <;> (conv => whnf))
        refine Fn.frame [3, 4] (by rfl) (by exact ⟨ren_pl hfp _ _ _, ren_pl hp _ _ _, trivial⟩) (by simp [nodupb, V.okb, A.okb, Ob.okb, hfp.2, hp.2] <;> decide) (toldX hb on vs Y Ls X fs rs n1 c1 n c mk1 mk hfs hn1 hn19 hV hrs hn hn9 (hR hg) ?_)
        by_cases hq : [hb] ++ onB hb on ++ flF vs ++ flat Ls = L
        · have hk := hK1' fs rs Y X n1 c1 n c mk1 mk ⟨he, hg, hq⟩ hfs hn1 hrs hn
          have hs3 : (!((bs ([hb] ++ onB hb on ++ flF vs ++ flat Ls)).data.toList == s.data.toList)) = false := by rw [hq, hs]; simp
          generalize bs ([hb] ++ onB hb on ++ flF vs ++ flat Ls) = told at *
          conv => whnf
          repeat' ((first | ((with_reducible refine y'r ?_ ?_); (· decide +kernel)) | ((with_reducible refine y'g ?_ ?_); (· exact ⟨_, rfl⟩)) | (with_reducible first | refine y'b ‹_› ?_ | refine y'n ‹_› ?_ | refine y'1 ‹_› ?_ | refine y'2 ‹_› ?_ | refine y'3 ?_ | refine y'4 ?_) | ((with_reducible refine y'n ?_ ?_); (· first | assumption | exact decide_eq_true (by omega) | decide +kernel)) | ((with_reducible refine y'b ?_ ?_); (· assumption)) | (with_reducible first | refine y'n (y'7 ‹_› ‹_›) ?_ | refine y'v (y'8 ‹_› ‹_›) (fun s hs => ?_) | refine y'5 ‹_› ?_ | refine y'6 ‹_› ?_) | ((with_reducible apply y'o); (· first | exact g0 | exact g1)) | ((with_reducible refine y'p ?_ ?_); (· rfl)) | ((with_reducible refine y'q ?_ ?_); (· rfl)) | fail) <;> (conv => whnf))
          exact keepOf (v₀ := .g [.int .u8 (hb.toNat : Int), .bool on, .slc 0 0 n1 c1, .nils, .slc 1 0 n c]) [.cells fs 23 mk1, .cells rs 21 mk] [3, 4] rfl ⟨ren_pl hfp _ _ _, ren_pl hp _ _ _, trivial⟩ (by simp [nodupb, baseb, Ob.okb, frmOk, V.okb, A.okb, hp.2, hfp.2] <;> decide) hk
        · have hk := hK0' (fun h => hq h.2.2)
          have hs3 : (!((bs ([hb] ++ onB hb on ++ flF vs ++ flat Ls)).data.toList == s.data.toList)) = true := by rw [hs, beqL, decide_eq_false hq]; rfl
          generalize bs ([hb] ++ onB hb on ++ flF vs ++ flat Ls) = told at *
          conv => whnf
          repeat' ((first | ((with_reducible refine y'r ?_ ?_); (· decide +kernel)) | ((with_reducible refine y'g ?_ ?_); (· exact ⟨_, rfl⟩)) | (with_reducible first | refine y'b ‹_› ?_ | refine y'n ‹_› ?_ | refine y'1 ‹_› ?_ | refine y'2 ‹_› ?_ | refine y'3 ?_ | refine y'4 ?_) | ((with_reducible refine y'n ?_ ?_); (· first | assumption | exact decide_eq_true (by omega) | decide +kernel)) | ((with_reducible refine y'b ?_ ?_); (· assumption)) | (with_reducible first | refine y'n (y'7 ‹_› ‹_›) ?_ | refine y'v (y'8 ‹_› ‹_›) (fun s hs => ?_) | refine y'5 ‹_› ?_ | refine y'6 ‹_› ?_) | ((with_reducible apply y'o); (· first | exact g0 | exact g1)) | ((with_reducible refine y'p ?_ ?_); (· rfl)) | ((with_reducible refine y'q ?_ ?_); (· rfl)) | fail) <;> (conv => whnf))
          exact keepOf (v₀ := .g [.int .u8 0, .bool false, .nils, .nils, .nils]) [] [] rfl trivial rfl hk
    · have c2 : (e != 0) = true := by simp [he]
      have hk := hK0' (fun h => he h.1)
      conv => whnf
      repeat' ((first | ((with_reducible refine y'r ?_ ?_); (· decide +kernel)) | ((with_reducible refine y'g ?_ ?_); (· exact ⟨_, rfl⟩)) | (with_reducible first | refine y'b ‹_› ?_ | refine y'n ‹_› ?_ | refine y'1 ‹_› ?_ | refine y'2 ‹_› ?_ | refine y'3 ?_ | refine y'4 ?_) | ((with_reducible refine y'n ?_ ?_); (· first | assumption | exact decide_eq_true (by omega) | decide +kernel)) | ((with_reducible refine y'b ?_ ?_); (· assumption)) | (with_reducible first | refine y'n (y'7 ‹_› ‹_›) ?_ | refine y'v (y'8 ‹_› ‹_›) (fun s hs => ?_) | refine y'5 ‹_› ?_ | refine y'6 ‹_› ?_) | ((with_reducible apply y'o); (· first | exact g0 | exact g1)) | ((with_reducible refine y'p ?_ ?_); (· rfl)) | ((with_reducible refine y'q ?_ ?_); (· rfl)) | fail) <;> (conv => whnf))
      exact keepOf (v₀ := .g [.int .u8 0, .bool false, .nils, .nils, .nils]) [] [] rfl trivial rfl hk
end
end Go.Proofs.YtimddbgnaeeggaaDoor.KD
