import Derived.Test.YtimddbgnaeeggaaDoorRB
namespace Go.Proofs.YtimddbgnaeeggaaDoor.KD
open Go.Eng
set_option maxRecDepth 100000
/-- What counts come to. -/
def sumE : List Cn → Int
  | [] => 0
  | e :: E => (e.up : Int) - e.down + sumE E
theorem sumE_snoc (E : List Cn) (e : Cn) : sumE (E ++ [e]) = sumE E + ((e.up : Int) - e.down) := by
  induction E with
  | nil => simp [sumE]
  | cons x E ih => rw [List.cons_append]; unfold sumE; rw [ih]; omega
theorem sumE_le : ∀ {E : List Cn}, (∀ e ∈ E, e.up < 65536 ∧ e.down < 65536) → -(65536 * (E.length : Int)) ≤ sumE E ∧ sumE E ≤ 65536 * (E.length : Int)
  | [], _ => by simp [sumE]
  | e :: E, h => by
    have h1 := h e (by simp)
    have h2 := sumE_le (E := E) (fun x hx => h x (by simp [hx]))
    unfold sumE
    rw [List.length_cons]
    omega
theorem pe_len (T : List UInt8) : (pe T).length * 5 ≤ T.length := by
  match T with
  | i :: a :: b :: d :: e :: R => rw [pe_cons]; have := pe_len R; simp only [List.length_cons]; omega
  | [] => simp [pe]
  | [_] => simp [pe]
  | [_, _] => simp [pe]
  | [_, _, _] => simp [pe]
  | [_, _, _, _] => simp [pe]
termination_by T.length
decreasing_by simp only [List.length_cons]; omega
theorem pe_lt (T : List UInt8) : ∀ e ∈ pe T, e.who < 256 ∧ e.up < 65536 ∧ e.down < 65536 := by
  match T with
  | i :: a :: b :: d :: e :: R =>
    intro x hx
    rw [pe_cons] at hx
    rcases List.mem_cons.1 hx with rfl | hx
    · exact ⟨i.toNat_lt, hiN_lt _, hiN_lt _⟩
    · exact pe_lt R x hx
  | [] => intro x hx; simp [pe] at hx
  | [_] => intro x hx; simp [pe] at hx
  | [_, _] => intro x hx; simp [pe] at hx
  | [_, _, _] => intro x hx; simp [pe] at hx
  | [_, _, _, _] => intro x hx; simp [pe] at hx
termination_by T.length
decreasing_by simp only [List.length_cons]; omega
theorem cts_get {rs : List A} {E : List Cn} {i : Nat} {e : Cn} (h : rs = cts E) (he : E[i]? = some e) : rs[i * 3 + 1]? = some (.int .i64 (e.up : Int)) ∧ rs[i * 3 + 2]? = some (.int .i64 (e.down : Int)) := by
  constructor
  · have := congrArg (fun l => l[1]?) (cts_drop he)
    simp only [List.getElem?_take_of_lt (show 1 < 3 by decide), List.getElem?_drop] at this
    rw [h, this]; rfl
  · have := congrArg (fun l => l[2]?) (cts_drop he)
    simp only [List.getElem?_take_of_lt (show 2 < 3 by decide), List.getElem?_drop] at this
    rw [h, this]; rfl
section
variable {ro : Addr → A → Prop}
set_option maxHeartbeats 4000000 in
theorem asTallyR (T : List UInt8) (hT : T.length ≤ 39) {K : V → Hp → Prop}
    (hK0 : apC T = false → K (.t [.a (.int .i32 0), .a (.int .i64 120)]) [])
    (hK1 : apC T = true → K (.t [.a (.int .i32 (sumE (pe T))), .a (.int .i64 0)]) []) :
    Go.Eng.Fn Tryd.prog ro 35 [.a (.str (bs (3 :: T)))] [] K := by
  have hlen := pe_len T
  have hlt := pe_lt T
  refine Fn.weak ?_
  refine Fn.of_code h35 Tryd.func35 rfl (Nat.le_of_ble_eq_true rfl) ?_
  have k := @apart3 ro T hT
  generalize bs (3 :: T) = s at *
  conv => whnf
  repeat' ((first | ((with_reducible refine y'r ?_ ?_); (· decide +kernel)) | ((with_reducible refine y'g ?_ ?_); (· exact ⟨_, rfl⟩)) | (with_reducible first | refine y'b ‹_› ?_ | refine y'n ‹_› ?_ | refine y'1 ‹_› ?_ | refine y'2 ‹_› ?_ | refine y'3 ?_ | refine y'4 ?_) | ((with_reducible refine y'n ?_ ?_); (· first | assumption | exact decide_eq_true (by omega) | decide +kernel)) | ((with_reducible refine y'b ?_ ?_); (· assumption)) | (with_reducible first | refine y'n (y'7 ‹_› ‹_›) ?_ | refine y'v (y'8 ‹_› ‹_›) (fun s hs => ?_) | refine y'5 ‹_› ?_ | refine y'6 ‹_› ?_) | ((with_reducible apply y'o); (· first | exact g0 | exact g1 | exact g2)) | ((with_reducible refine y'p ?_ ?_); (· rfl)) | ((with_reducible refine y'q ?_ ?_); (· rfl)) | fail) <;> (conv => whnf))
  refine Fn.frame [] (by rfl) (by exact trivial) (by rfl) (k (fun h0 => ?_) (fun h0 h1 => ?_) (fun rs X n cap mk h0 hrs hn hcap => ?_))
  · have hk := hK0 h0
    conv => whnf
    repeat' ((first | ((with_reducible refine y'r ?_ ?_); (· decide +kernel)) | ((with_reducible refine y'g ?_ ?_); (· exact ⟨_, rfl⟩)) | (with_reducible first | refine y'b ‹_› ?_ | refine y'n ‹_› ?_ | refine y'1 ‹_› ?_ | refine y'2 ‹_› ?_ | refine y'3 ?_ | refine y'4 ?_) | ((with_reducible refine y'n ?_ ?_); (· first | assumption | exact decide_eq_true (by omega) | decide +kernel)) | ((with_reducible refine y'b ?_ ?_); (· assumption)) | (with_reducible first | refine y'n (y'7 ‹_› ‹_›) ?_ | refine y'v (y'8 ‹_› ‹_›) (fun s hs => ?_) | refine y'5 ‹_› ?_ | refine y'6 ‹_› ?_) | ((with_reducible apply y'o); (· first | exact g0 | exact g1 | exact g2)) | ((with_reducible refine y'p ?_ ?_); (· rfl)) | ((with_reducible refine y'q ?_ ?_); (· rfl)) | fail) <;> (conv => whnf))
    exact keepOf (v₀ := .t [.a (.int .i32 0), .a (.int .i64 120)]) [] [] rfl trivial rfl hk
  · have hk := hK1 h0
    rw [h1, show pe [] = [] by rw [pe]; intros; contradiction] at hk
    conv => whnf
    repeat' ((first | ((with_reducible refine y'r ?_ ?_); (· decide +kernel)) | ((with_reducible refine y'g ?_ ?_); (· exact ⟨_, rfl⟩)) | (with_reducible first | refine y'b ‹_› ?_ | refine y'n ‹_› ?_ | refine y'1 ‹_› ?_ | refine y'2 ‹_› ?_ | refine y'3 ?_ | refine y'4 ?_) | ((with_reducible refine y'n ?_ ?_); (· first | assumption | exact decide_eq_true (by omega) | decide +kernel)) | ((with_reducible refine y'b ?_ ?_); (· assumption)) | (with_reducible first | refine y'n (y'7 ‹_› ‹_›) ?_ | refine y'v (y'8 ‹_› ‹_›) (fun s hs => ?_) | refine y'5 ‹_› ?_ | refine y'6 ‹_› ?_) | ((with_reducible apply y'o); (· first | exact g0 | exact g1 | exact g2)) | ((with_reducible refine y'p ?_ ?_); (· rfl)) | ((with_reducible refine y'q ?_ ?_); (· rfl)) | fail) <;> (conv => whnf))
    refine loopx_iter 1 ?_
    conv => whnf
    repeat' ((first | ((with_reducible refine y'r ?_ ?_); (· decide +kernel)) | ((with_reducible refine y'g ?_ ?_); (· exact ⟨_, rfl⟩)) | (with_reducible first | refine y'b ‹_› ?_ | refine y'n ‹_› ?_ | refine y'1 ‹_› ?_ | refine y'2 ‹_› ?_ | refine y'3 ?_ | refine y'4 ?_) | ((with_reducible refine y'n ?_ ?_); (· first | assumption | exact decide_eq_true (by omega) | decide +kernel)) | ((with_reducible refine y'b ?_ ?_); (· assumption)) | (with_reducible first | refine y'n (y'7 ‹_› ‹_›) ?_ | refine y'v (y'8 ‹_› ‹_›) (fun s hs => ?_) | refine y'5 ‹_› ?_ | refine y'6 ‹_› ?_) | ((with_reducible apply y'o); (· first | exact g0 | exact g1 | exact g2)) | ((with_reducible refine y'p ?_ ?_); (· rfl)) | ((with_reducible refine y'q ?_ ?_); (· rfl)) | fail) <;> (conv => whnf))
    exact keepOf (v₀ := .t [.a (.int .i32 0), .a (.int .i64 0)]) [] [] rfl trivial rfl hk
  · have hk := hK1 h0
    have hp := cts_pl hrs
    conv => whnf
    repeat' ((first | ((with_reducible refine y'r ?_ ?_); (· decide +kernel)) | ((with_reducible refine y'g ?_ ?_); (· exact ⟨_, rfl⟩)) | (with_reducible first | refine y'b ‹_› ?_ | refine y'n ‹_› ?_ | refine y'1 ‹_› ?_ | refine y'2 ‹_› ?_ | refine y'3 ?_ | refine y'4 ?_) | ((with_reducible refine y'n ?_ ?_); (· first | assumption | exact decide_eq_true (by omega) | decide +kernel)) | ((with_reducible refine y'b ?_ ?_); (· assumption)) | (with_reducible first | refine y'n (y'7 ‹_› ‹_›) ?_ | refine y'v (y'8 ‹_› ‹_›) (fun s hs => ?_) | refine y'5 ‹_› ?_ | refine y'6 ‹_› ?_) | ((with_reducible apply y'o); (· first | exact g0 | exact g1 | exact g2)) | ((with_reducible refine y'p ?_ ?_); (· rfl)) | ((with_reducible refine y'q ?_ ?_); (· rfl)) | fail) <;> (conv => whnf))
    refine loopx_of (fun m F H => ∃ (i : Nat) (z : Int), z = (i : Int) ∧ i ≤ n ∧ m = n - i ∧ F = [(4, .a (.ptr 1 0)), (5, .a (.int .i64 (sumE ((pe T).take i)))), (6, .a (.int .i64 z))] ∧ H = [.cells rs 104 mk, .cells [.int .u8 3, .bool false, .nils, .slc 0 0 n cap, .nils] 57 false]) n ?_ ?_
    · exact Into.weak [0, 1] [(4, .a (.ptr 1 0)), (5, .a (.int .i64 0)), (6, .a (.int .i64 0))] [.cells rs 104 mk, .cells [.int .u8 3, .bool false, .nils, .slc 0 0 n cap, .nils] 57 false] ⟨0, 0, rfl, Nat.zero_le _, rfl, rfl, rfl⟩ ⟨rfl, rfl, rfl, trivial⟩ ⟨ren_pl hp _ _ _, rfl, trivial⟩ (by simp [nodupb, baseb, Ob.okb, frmOk, V.okb, A.okb, hp.2] <;> decide)
    · rintro m F H ⟨i, z, hz, hi, rfl, rfl, rfl⟩
      have hw : IntKind.i64.wrap (z + 1) = ((i + 1 : Nat) : Int) := by rw [i64w (by omega) (by omega)]; omega
      obtain ⟨y, hy⟩ : ∃ y, y = sumE ((pe T).take i) := ⟨_, rfl⟩
      have hyl := sumE_le (E := (pe T).take i) (fun x hx => (hlt x (List.mem_of_mem_take hx)).2)
      rw [List.length_take, ← hy] at hyl
      rw [← hy]
      by_cases hin : i < n
      · have d1 : decide (z < (n : Int)) = true := decide_eq_true (by omega)
        obtain ⟨e, he⟩ : ∃ e, (pe T)[i]? = some e := ⟨_, List.getElem?_eq_getElem (by omega)⟩
        obtain ⟨b1, b2, b3⟩ := hlt e (List.mem_of_getElem? he)
        have heX : (pe T ++ X)[i]? = some e := by rw [List.getElem?_append_left (by omega)]; exact he
        obtain ⟨g1, g2⟩ := cts_get hrs heX
        have hts : (pe T).take (i + 1) = (pe T).take i ++ [e] := by rw [List.take_add_one, he]; rfl
        obtain ⟨u, hu⟩ : ∃ u : Int, u = (e.up : Int) := ⟨_, rfl⟩
        obtain ⟨d, hd⟩ : ∃ d : Int, d = (e.down : Int) := ⟨_, rfl⟩
        have q1 : rs[0 + z.toNat * Tryd.prog.types[104].size + 1]? = some (.int .i64 u) := by rw [hz, Int.toNat_natCast, s68, Nat.zero_add, hu]; exact g1
        have q2 : rs[0 + z.toNat * Tryd.prog.types[104].size + 2]? = some (.int .i64 d) := by rw [hz, Int.toNat_natCast, s68, Nat.zero_add, hd]; exact g2
        conv => whnf
        repeat' ((first | ((with_reducible refine y'r ?_ ?_); (· decide +kernel)) | ((with_reducible refine y'g ?_ ?_); (· exact ⟨_, rfl⟩)) | (with_reducible first | refine y'b ‹_› ?_ | refine y'n ‹_› ?_ | refine y'1 ‹_› ?_ | refine y'2 ‹_› ?_ | refine y'3 ?_ | refine y'4 ?_) | ((with_reducible refine y'n ?_ ?_); (· first | assumption | exact decide_eq_true (by omega) | decide +kernel)) | ((with_reducible refine y'b ?_ ?_); (· assumption)) | (with_reducible first | refine y'n (y'7 ‹_› ‹_›) ?_ | refine y'v (y'8 ‹_› ‹_›) (fun s hs => ?_) | refine y'5 ‹_› ?_ | refine y'6 ‹_› ?_) | ((with_reducible apply y'o); (· first | exact g0 | exact g1 | exact g2)) | ((with_reducible refine y'p ?_ ?_); (· rfl)) | ((with_reducible refine y'q ?_ ?_); (· rfl)) | fail) <;> (conv => whnf))
        refine y'o (show rs[0 + z.toNat * Tryd.prog.types[104].size + 1]? = some (.int .i64 u) from q1) ?_
        conv => whnf
        repeat' ((first | ((with_reducible refine y'r ?_ ?_); (· decide +kernel)) | ((with_reducible refine y'g ?_ ?_); (· exact ⟨_, rfl⟩)) | (with_reducible first | refine y'b ‹_› ?_ | refine y'n ‹_› ?_ | refine y'1 ‹_› ?_ | refine y'2 ‹_› ?_ | refine y'3 ?_ | refine y'4 ?_) | ((with_reducible refine y'n ?_ ?_); (· first | assumption | exact decide_eq_true (by omega) | decide +kernel)) | ((with_reducible refine y'b ?_ ?_); (· assumption)) | (with_reducible first | refine y'n (y'7 ‹_› ‹_›) ?_ | refine y'v (y'8 ‹_› ‹_›) (fun s hs => ?_) | refine y'5 ‹_› ?_ | refine y'6 ‹_› ?_) | ((with_reducible apply y'o); (· first | exact g0 | exact g1 | exact g2)) | ((with_reducible refine y'p ?_ ?_); (· rfl)) | ((with_reducible refine y'q ?_ ?_); (· rfl)) | fail) <;> (conv => whnf))
        refine y'o (show rs[0 + z.toNat * Tryd.prog.types[104].size + 2]? = some (.int .i64 d) from q2) ?_
        conv => whnf
        repeat' ((first | ((with_reducible refine y'r ?_ ?_); (· decide +kernel)) | ((with_reducible refine y'g ?_ ?_); (· exact ⟨_, rfl⟩)) | (with_reducible first | refine y'b ‹_› ?_ | refine y'n ‹_› ?_ | refine y'1 ‹_› ?_ | refine y'2 ‹_› ?_ | refine y'3 ?_ | refine y'4 ?_) | ((with_reducible refine y'n ?_ ?_); (· first | assumption | exact decide_eq_true (by omega) | decide +kernel)) | ((with_reducible refine y'b ?_ ?_); (· assumption)) | (with_reducible first | refine y'n (y'7 ‹_› ‹_›) ?_ | refine y'v (y'8 ‹_› ‹_›) (fun s hs => ?_) | refine y'5 ‹_› ?_ | refine y'6 ‹_› ?_) | ((with_reducible apply y'o); (· first | exact g0 | exact g1 | exact g2)) | ((with_reducible refine y'p ?_ ?_); (· rfl)) | ((with_reducible refine y'q ?_ ?_); (· rfl)) | fail) <;> (conv => whnf))
        have hv : IntKind.i64.wrap (IntKind.i64.wrap (y + u) - d) = sumE ((pe T).take (i + 1)) := by
          rw [hts, sumE_snoc, ← hy, i64w (x := y + u) (by omega) (by omega), i64w (by omega) (by omega)]; omega
        exact ⟨n - (i + 1), by omega, Into.weak [0, 1] [(4, .a (.ptr 1 0)), (5, .a (.int .i64 (sumE ((pe T).take (i + 1))))), (6, .a (.int .i64 ((i + 1 : Nat) : Int)))] [.cells rs 104 mk, .cells [.int .u8 3, .bool false, .nils, .slc 0 0 n cap, .nils] 57 false] ⟨i + 1, _, rfl, by omega, rfl, rfl, rfl⟩ ⟨rfl, congrArg (fun z => some (V.a (.int .i64 z))) hv, congrArg (fun z => some (V.a (.int .i64 z))) hw, trivial⟩ ⟨ren_pl hp _ _ _, rfl, trivial⟩ (by simp [nodupb, baseb, Ob.okb, frmOk, V.okb, A.okb, hp.2] <;> decide)⟩
      · have d1 : decide (z < (n : Int)) = false := decide_eq_false (by omega)
        rw [show i = n by omega, List.take_of_length_le (by omega)] at hy
        rw [← hy] at hk
        have hv : IntKind.i32.wrap y = y := i32w (by omega)
        conv => whnf
        repeat' ((first | ((with_reducible refine y'r ?_ ?_); (· decide +kernel)) | ((with_reducible refine y'g ?_ ?_); (· exact ⟨_, rfl⟩)) | (with_reducible first | refine y'b ‹_› ?_ | refine y'n ‹_› ?_ | refine y'1 ‹_› ?_ | refine y'2 ‹_› ?_ | refine y'3 ?_ | refine y'4 ?_) | ((with_reducible refine y'n ?_ ?_); (· first | assumption | exact decide_eq_true (by omega) | decide +kernel)) | ((with_reducible refine y'b ?_ ?_); (· assumption)) | (with_reducible first | refine y'n (y'7 ‹_› ‹_›) ?_ | refine y'v (y'8 ‹_› ‹_›) (fun s hs => ?_) | refine y'5 ‹_› ?_ | refine y'6 ‹_› ?_) | ((with_reducible apply y'o); (· first | exact g0 | exact g1 | exact g2)) | ((with_reducible refine y'p ?_ ?_); (· rfl)) | ((with_reducible refine y'q ?_ ?_); (· rfl)) | fail) <;> (conv => whnf))
        rw [hv]
        exact keepOf (v₀ := .t [.a (.int .i32 y), .a (.int .i64 0)]) [] [] rfl trivial rfl hk
end
end Go.Proofs.YtimddbgnaeeggaaDoor.KD
