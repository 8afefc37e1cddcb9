import Derived.Test.YtimddbgnaeeggaaDoorRV
import Derived.Test.YtimddbgnaeeggaaDoorKQ
namespace Go.Proofs.YtimddbgnaeeggaaDoor.KD
open Go.Eng
set_option maxRecDepth 100000
/-! ### Rows of counts. -/
structure Cn where
  who : Nat
  up : Nat
  down : Nat
def Cn.row (e : Cn) : List A := [.int .u8 e.who, .int .i64 e.up, .int .i64 e.down]
@[irreducible] def cts (E : List Cn) : List A := E.flatMap Cn.row
theorem cts_nil : cts [] = [] := by unfold cts; rfl
theorem cts_cons (e : Cn) (E : List Cn) : cts (e :: E) = e.row ++ cts E := by unfold cts; simp
theorem cts_append (E F : List Cn) : cts (E ++ F) = cts E ++ cts F := by unfold cts; simp
theorem cts_len (E : List Cn) : (cts E).length = E.length * 3 := by
  induction E with
  | nil => rw [cts_nil]; rfl
  | cons e E ih => rw [cts_cons, List.length_append, ih, List.length_cons]; simp [Cn.row]; omega
theorem cts_pl {rs : List A} {E : List Cn} (h : rs = cts E) : Pl rs := by
  subst h
  have : ∀ x ∈ cts E, (∀ δ, A.ren δ x = x) ∧ ∀ n, A.okb n x = true := by
    intro x hx
    unfold cts at hx
    obtain ⟨e, _, hx⟩ := List.mem_flatMap.1 hx
    unfold Cn.row at hx
    simp only [List.mem_cons, List.not_mem_nil, or_false] at hx
    rcases hx with rfl | rfl | rfl <;> exact ⟨fun _ => rfl, fun _ => rfl⟩
  refine ⟨fun δ => ?_, fun n => List.all_eq_true.2 fun x hx => (this x hx).2 n⟩
  conv => rhs; rw [← List.map_id (cts E)]
  exact List.map_congr_left fun x hx => (this x hx).1 δ
theorem s68 : Tryd.prog.types[104].size = 3 := rfl
theorem cts_drop {E : List Cn} {i : Nat} {e : Cn} (h : E[i]? = some e) : ((cts E).drop (i * 3)).take 3 = e.row := by
  obtain ⟨h1, h2⟩ := List.getElem?_eq_some_iff.1 h
  have : cts E = cts (E.take i) ++ (e.row ++ cts (E.drop (i + 1))) := by
    rw [← cts_cons, ← cts_append, ← h2, ← List.drop_eq_getElem_cons h1, List.take_append_drop]
  rw [this, List.drop_left' (by rw [cts_len, List.length_take]; omega)]
  exact List.take_left' rfl
theorem cts_pick {rs : List A} {E : List Cn} {i : Nat} {e : Cn} (h : rs = cts E) (he : E[i]? = some e) : List.drop (0 + (i : Int).toNat * Tryd.prog.types[104].size) (List.take (0 + (i : Int).toNat * Tryd.prog.types[104].size + Tryd.prog.types[104].size) rs) = [.int .u8 e.who, .int .i64 e.up, .int .i64 e.down] := by
  rw [s68, Int.toNat_natCast, Nat.zero_add, List.drop_take, Nat.add_sub_cancel_left, h]
  exact cts_drop he
theorem cts_ok {rs : List A} {E : List Cn} {i : Nat} (h : rs = cts E) (hi : i < E.length) : decide (0 + (i : Int).toNat * Tryd.prog.types[104].size + Tryd.prog.types[104].size ≤ rs.length) = true := by
  rw [s68, h, cts_len, Int.toNat_natCast]
  exact decide_eq_true (by omega)
/-- The bytes of counts. -/
def Cn.bytes (e : Cn) : List UInt8 := UInt8.ofNat e.who :: (be 2 e.up ++ be 2 e.down)
@[irreducible] def cbs (E : List Cn) : List UInt8 := E.flatMap Cn.bytes
theorem cbs_nil : cbs [] = [] := by unfold cbs; rfl
theorem cbs_snoc (E : List Cn) (e : Cn) : cbs (E ++ [e]) = cbs E ++ e.bytes := by unfold cbs; simp
theorem cbs_cons (e : Cn) (E : List Cn) : cbs (e :: E) = e.bytes ++ cbs E := by unfold cbs; simp
theorem cbs_len (E : List Cn) : (cbs E).length = E.length * 5 := by
  induction E with
  | nil => rw [cbs_nil]; rfl
  | cons e E ih => rw [cbs_cons, List.length_append, ih, List.length_cons]; simp [Cn.bytes, be_length]; omega
theorem lit1 (x : UInt8) : ({ data := #[x] } : ByteArray).size = 1 := rfl
section
variable {ro : Addr → A → Prop}
set_option maxHeartbeats 4000000 in
theorem toldC (kb : UInt8) (E X : List Cn) (rs : List A) (n cap : Nat) (mk : Bool) (hrs : rs = cts (E ++ X)) (hn : n = E.length) (hn9 : n ≤ 9) (hE : ∀ e ∈ E, e.who < 256 ∧ e.up < 65536 ∧ e.down < 65536) (hkb : kb ≠ 1) {K : V → Hp → Prop}
    (hK : K (.a (.str (bs ([kb] ++ cbs E)))) [.cells rs 104 mk]) :
    Go.Eng.Fn Tryd.prog ro 56 [.g [.int .u8 (kb.toNat : Int), .bool false, .nils, .slc 0 0 n cap, .nils]] [.cells rs 104 mk] K := by
  have hp := cts_pl hrs
  obtain ⟨z, hz⟩ : ∃ z : Int, z = (kb.toNat : Int) := ⟨_, rfl⟩
  have hz1 : (z == 1) = false := by
    simp only [beq_eq_false_iff_ne, ne_eq]
    intro e
    exact hkb (UInt8.toNat_inj.1 (show kb.toNat = 1 by omega))
  have hzl : 0 ≤ z ∧ z < 256 := by have := kb.toNat_lt; omega
  rw [← hz]
  refine Fn.weak ?_
  refine Fn.of 1 h56 rfl Tryd.func56 rfl (Nat.le_of_ble_eq_true rfl) ?_
  conv => whnf
  repeat' ((first | ((with_reducible refine y'r ?_ ?_); (· decide +kernel)) | ((with_reducible refine y'g ?_ ?_); (· exact ⟨_, rfl⟩)) | (with_reducible first | refine y'b ‹_› ?_ | refine y'n ‹_› ?_ | refine y'1 ‹_› ?_ | refine y'2 ‹_› ?_ | refine y'3 ?_ | refine y'4 ?_) | ((with_reducible refine y'n ?_ ?_); (· first | assumption | exact decide_eq_true (by omega) | decide +kernel)) | ((with_reducible refine y'b ?_ ?_); (· assumption)) | (with_reducible first | refine y'n (y'7 ‹_› ‹_›) ?_ | refine y'v (y'8 ‹_› ‹_›) (fun s hs => ?_) | refine y'5 ‹_› ?_ | refine y'6 ‹_› ?_) | ((with_reducible apply y'o); (· first | exact g0 | exact g1 | exact g2)) | ((with_reducible refine y'p ?_ ?_); (· rfl)) | ((with_reducible refine y'q ?_ ?_); (· rfl)) | fail) <;> (conv => whnf))
  refine loopx_iter 1 ?_
  conv => whnf
  repeat' ((first | ((with_reducible refine y'r ?_ ?_); (· decide +kernel)) | ((with_reducible refine y'g ?_ ?_); (· exact ⟨_, rfl⟩)) | (with_reducible first | refine y'b ‹_› ?_ | refine y'n ‹_› ?_ | refine y'1 ‹_› ?_ | refine y'2 ‹_› ?_ | refine y'3 ?_ | refine y'4 ?_) | ((with_reducible refine y'n ?_ ?_); (· first | assumption | exact decide_eq_true (by omega) | decide +kernel)) | ((with_reducible refine y'b ?_ ?_); (· assumption)) | (with_reducible first | refine y'n (y'7 ‹_› ‹_›) ?_ | refine y'v (y'8 ‹_› ‹_›) (fun s hs => ?_) | refine y'5 ‹_› ?_ | refine y'6 ‹_› ?_) | ((with_reducible apply y'o); (· first | exact g0 | exact g1 | exact g2)) | ((with_reducible refine y'p ?_ ?_); (· rfl)) | ((with_reducible refine y'q ?_ ?_); (· rfl)) | fail) <;> (conv => whnf))
  have hks : ({ data := #[UInt8.ofNat z.toNat] } : ByteArray) = bs ([kb] ++ cbs (E.take 0)) := by
    rw [List.take_zero, cbs_nil, hz, Int.toNat_natCast]
    simp [bs]
  refine loopx_of (fun m F H => ∃ (i : Nat) (t : ByteArray), i ≤ n ∧ m = n - i ∧ t = bs ([kb] ++ cbs (E.take i)) ∧ F = [(1, .a (.ptr 1 0)), (3, .a (.str t)), (5, .a (.int .i64 i))] ∧ H = [.cells rs 104 mk, .cells [.int .u8 z, .bool false, .nils, .slc 0 0 n cap, .nils] 57 false]) n ?_ ?_
  · exact Into.weak [0, 1] [(1, .a (.ptr 1 0)), (3, .a (.str ({ data := #[UInt8.ofNat z.toNat] } : ByteArray))), (5, .a (.int .i64 (0 : Nat)))] [.cells rs 104 mk, .cells [.int .u8 z, .bool false, .nils, .slc 0 0 n cap, .nils] 57 false] ⟨0, _, Nat.zero_le _, rfl, hks, rfl, rfl⟩ ⟨rfl, rfl, rfl, trivial⟩ ⟨ren_pl hp _ _ _, rfl, trivial⟩ (by simp [nodupb, baseb, Ob.okb, frmOk, V.okb, A.okb, hp.2] <;> decide)
  · rintro m F H ⟨i, t, hi, rfl, ht, rfl, rfl⟩
    have hw : IntKind.i64.wrap (↑i + 1) = ((i + 1 : Nat) : Int) := by rw [i64w (by omega) (by omega)]; rfl
    by_cases hin : i < n
    · have d1 : decide ((i : Int) < (n : Int)) = true := decide_eq_true (by omega)
      obtain ⟨e, he⟩ : ∃ e, E[i]? = some e := ⟨_, List.getElem?_eq_getElem (by omega)⟩
      obtain ⟨b1, b2, b3⟩ := hE e (List.mem_of_getElem? he)
      have heX : (E ++ X)[i]? = some e := by rw [List.getElem?_append_left (by omega)]; exact he
      have hts : E.take (i + 1) = E.take i ++ [e] := by rw [List.take_add_one, he]; rfl
      conv => whnf
      repeat' ((first | ((with_reducible refine y'r ?_ ?_); (· decide +kernel)) | ((with_reducible refine y'g ?_ ?_); (· exact ⟨_, rfl⟩)) | (with_reducible first | refine y'b ‹_› ?_ | refine y'n ‹_› ?_ | refine y'1 ‹_› ?_ | refine y'2 ‹_› ?_ | refine y'3 ?_ | refine y'4 ?_) | ((with_reducible refine y'n ?_ ?_); (· first | assumption | exact decide_eq_true (by omega) | decide +kernel)) | ((with_reducible refine y'b ?_ ?_); (· assumption)) | (with_reducible first | refine y'n (y'7 ‹_› ‹_›) ?_ | refine y'v (y'8 ‹_› ‹_›) (fun s hs => ?_) | refine y'5 ‹_› ?_ | refine y'6 ‹_› ?_) | ((with_reducible apply y'o); (· first | exact g0 | exact g1 | exact g2)) | ((with_reducible refine y'p ?_ ?_); (· rfl)) | ((with_reducible refine y'q ?_ ?_); (· rfl)) | fail) <;> (conv => whnf))
      refine y'n (cts_ok hrs (by rw [List.length_append]; omega)) ?_
      conv => whnf
      refine y't (cts_pick hrs heX) ?_
      obtain ⟨w, hw0⟩ : ∃ w : Int, w = (e.who : Int) := ⟨_, rfl⟩
      obtain ⟨u, hu0⟩ : ∃ u : Int, u = (e.up : Int) := ⟨_, rfl⟩
      obtain ⟨d, hd0⟩ : ∃ d : Int, d = (e.down : Int) := ⟨_, rfl⟩
      rw [← hw0, ← hu0, ← hd0]
      have htz : t.size ≤ 100 := by
        rw [ht, bs_size, List.length_append, cbs_len, List.length_take, List.length_singleton]; omega
      have hnx : t ++ ({ data := #[UInt8.ofNat w.toNat] } : ByteArray) ++ bs (be 2 e.up) ++ bs (be 2 e.down) = bs ([kb] ++ cbs (E.take (i + 1))) := by
        rw [ht, show ({ data := #[UInt8.ofNat w.toNat] } : ByteArray) = bs [UInt8.ofNat e.who] by rw [hw0, Int.toNat_natCast]; rfl, bs_append, bs_append, bs_append, hts, cbs_snoc]
        unfold Cn.bytes
        simp
      have k1 := @refFixed ro e.up 2 (by decide) (by decide) (by omega)
      have k2 := @refFixed ro e.down 2 (by decide) (by decide) (by omega)
      have w1 : IntKind.u64.wrap u = (e.up : Int) := by rw [hu0, u64w, Nat.mod_eq_of_lt (by omega)]
      have w2 : IntKind.u64.wrap d = (e.down : Int) := by rw [hd0, u64w, Nat.mod_eq_of_lt (by omega)]
      rw [← w1] at k1
      rw [← w2] at k2
      conv => whnf
      repeat' ((first | ((with_reducible refine y'r ?_ ?_); (· decide +kernel)) | ((with_reducible refine y'g ?_ ?_); (· exact ⟨_, rfl⟩)) | (with_reducible first | refine y'b ‹_› ?_ | refine y'n ‹_› ?_ | refine y'1 ‹_› ?_ | refine y'2 ‹_› ?_ | refine y'3 ?_ | refine y'4 ?_) | ((with_reducible refine y'n ?_ ?_); (· first | assumption | exact decide_eq_true (by omega) | decide +kernel)) | ((with_reducible refine y'b ?_ ?_); (· assumption)) | (with_reducible first | refine y'n (y'7 ‹_› ‹_›) ?_ | refine y'v (y'8 ‹_› ‹_›) (fun s hs => ?_) | refine y'5 ‹_› ?_ | refine y'6 ‹_› ?_) | ((with_reducible apply y'o); (· first | exact g0 | exact g1 | exact g2)) | ((with_reducible refine y'p ?_ ?_); (· rfl)) | ((with_reducible refine y'q ?_ ?_); (· rfl)) | (with_reducible refine And.intro ?_ ?_) | ((with_reducible refine y'n ?_ ?_); (· refine decide_eq_true ?_; simp only [ByteArray.size_append, bs_size, be_length, lit1]; omega)) | (refine Fn.frame [] (by rfl) (by exact trivial) (by rfl) (k1 ?_)) | (refine Fn.frame [] (by rfl) (by exact trivial) (by rfl) (k2 ?_)) | fail) <;> (conv => whnf))
      all_goals
        exact ⟨n - (i + 1), by omega, Into.weak [0, 1] [(1, .a (.ptr 1 0)), (3, .a (.str (t ++ ({ data := #[UInt8.ofNat w.toNat] } : ByteArray) ++ bs (be 2 e.up) ++ bs (be 2 e.down)))), (5, .a (.int .i64 ((i + 1 : Nat) : Int)))] [.cells rs 104 mk, .cells [.int .u8 z, .bool false, .nils, .slc 0 0 n cap, .nils] 57 false] ⟨i + 1, _, by omega, rfl, hnx, rfl, rfl⟩ ⟨rfl, rfl, congrArg (fun z => some (V.a (.int .i64 z))) hw, trivial⟩ ⟨ren_pl hp _ _ _, rfl, trivial⟩ (by simp [nodupb, baseb, Ob.okb, frmOk, V.okb, A.okb, hp.2] <;> decide)⟩
    · have d1 : decide ((i : Int) < (n : Int)) = false := decide_eq_false (by omega)
      rw [show i = n by omega, List.take_of_length_le (by omega)] at ht
      conv => whnf
      repeat' ((first | ((with_reducible refine y'r ?_ ?_); (· decide +kernel)) | ((with_reducible refine y'g ?_ ?_); (· exact ⟨_, rfl⟩)) | (with_reducible first | refine y'b ‹_› ?_ | refine y'n ‹_› ?_ | refine y'1 ‹_› ?_ | refine y'2 ‹_› ?_ | refine y'3 ?_ | refine y'4 ?_) | ((with_reducible refine y'n ?_ ?_); (· first | assumption | exact decide_eq_true (by omega) | decide +kernel)) | ((with_reducible refine y'b ?_ ?_); (· assumption)) | (with_reducible first | refine y'n (y'7 ‹_› ‹_›) ?_ | refine y'v (y'8 ‹_› ‹_›) (fun s hs => ?_) | refine y'5 ‹_› ?_ | refine y'6 ‹_› ?_) | ((with_reducible apply y'o); (· first | exact g0 | exact g1 | exact g2)) | ((with_reducible refine y'p ?_ ?_); (· rfl)) | ((with_reducible refine y'q ?_ ?_); (· rfl)) | fail) <;> (conv => whnf))
      refine loopx_iter 1 ?_
      conv => whnf
      repeat' ((first | ((with_reducible refine y'r ?_ ?_); (· decide +kernel)) | ((with_reducible refine y'g ?_ ?_); (· exact ⟨_, rfl⟩)) | (with_reducible first | refine y'b ‹_› ?_ | refine y'n ‹_› ?_ | refine y'1 ‹_› ?_ | refine y'2 ‹_› ?_ | refine y'3 ?_ | refine y'4 ?_) | ((with_reducible refine y'n ?_ ?_); (· first | assumption | exact decide_eq_true (by omega) | decide +kernel)) | ((with_reducible refine y'b ?_ ?_); (· assumption)) | (with_reducible first | refine y'n (y'7 ‹_› ‹_›) ?_ | refine y'v (y'8 ‹_› ‹_›) (fun s hs => ?_) | refine y'5 ‹_› ?_ | refine y'6 ‹_› ?_) | ((with_reducible apply y'o); (· first | exact g0 | exact g1 | exact g2)) | ((with_reducible refine y'p ?_ ?_); (· rfl)) | ((with_reducible refine y'q ?_ ?_); (· rfl)) | fail) <;> (conv => whnf))
      rw [ht]
      exact keepOf (v₀ := .a (.str (bs ([kb] ++ cbs E)))) [.cells rs 104 mk] [0] rfl ⟨ren_pl hp _ _ _, trivial⟩ (by simp [nodupb, baseb, Ob.okb, frmOk, V.okb, A.okb, hp.2] <;> decide) hK
end
end Go.Proofs.YtimddbgnaeeggaaDoor.KD
