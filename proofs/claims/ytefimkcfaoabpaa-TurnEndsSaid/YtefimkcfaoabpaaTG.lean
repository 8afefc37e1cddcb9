import Derived.Test.YtefimkcfaoabpaaTF
import Derived.Test.YtefimkcfaoabpaaTA
namespace Go.Proofs.Ytefimkcfaoabpaa.TA
open Go.Eng
set_option maxRecDepth 100000
/- The script's numbers: one in 1 .. n. -/
theorem mod1 (x : Int) (n : Int) (hn : 0 < n) (hb : n ≤ 16) : 1 ≤ IntKind.i64.wrap (1 + (IntKind.i64.wrap (x.tmod n + n)).tmod n) ∧ IntKind.i64.wrap (1 + (IntKind.i64.wrap (x.tmod n + n)).tmod n) ≤ n := by
  have hab : (x.tmod n).natAbs < n.natAbs := by rw [Int.natAbs_tmod]; exact Nat.mod_lt _ (by omega)
  have e : IntKind.i64.wrap (x.tmod n + n) = x.tmod n + n := i64w (by omega) (by omega)
  rw [e]
  have h3 : 0 ≤ (x.tmod n + n).tmod n := Int.tmod_nonneg _ (by omega)
  have h4 : (x.tmod n + n).tmod n < n := Int.tmod_lt_of_pos _ hn
  rw [i64w (by omega) (by omega)]
  omega
theorem mod0 (x r : Int) (hr : 1 ≤ r) (hb : r ≤ 16) : 0 ≤ (IntKind.i64.wrap (IntKind.i64.wrap (x.tmod (IntKind.i64.wrap (r + 1)) + r) + 1)).tmod (IntKind.i64.wrap (r + 1)) ∧ (IntKind.i64.wrap (IntKind.i64.wrap (x.tmod (IntKind.i64.wrap (r + 1)) + r) + 1)).tmod (IntKind.i64.wrap (r + 1)) ≤ r := by
  have e0 : IntKind.i64.wrap (r + 1) = r + 1 := i64w (by omega) (by omega)
  rw [e0]
  have hab : (x.tmod (r + 1)).natAbs < (r + 1).natAbs := by rw [Int.natAbs_tmod]; exact Nat.mod_lt _ (by omega)
  have e1 : IntKind.i64.wrap (x.tmod (r + 1) + r) = x.tmod (r + 1) + r := i64w (by omega) (by omega)
  rw [e1]
  have e2 : IntKind.i64.wrap (x.tmod (r + 1) + r + 1) = x.tmod (r + 1) + r + 1 := i64w (by omega) (by omega)
  rw [e2]
  have h3 : 0 ≤ (x.tmod (r + 1) + r + 1).tmod (r + 1) := Int.tmod_nonneg _ (by omega)
  have h4 : (x.tmod (r + 1) + r + 1).tmod (r + 1) < r + 1 := Int.tmod_lt_of_pos _ (by omega)
  omega
def KI : List Sc := [.int .i64]
@[reducible] def bq : ByteArray := { data := #[113] }
@[reducible] def br : ByteArray := { data := #[114] }
/- The ticket that the Asker knows behind i answers. -/
@[reducible] def tkt (i : Nat) : Int := if i = 0 then 0 else 77
@[reducible] def E0 (w r se : Int) (l : A) (i : Int) : Frm := [(0, .a (.int .i64 w)), (1, .a (.int .i64 r)), (2, .a l), (7, .a (.ptr 0 0)), (8, .a (.ptr 1 0)), (10, .a (.ptr 2 0)), (11, .a (.int .i64 se)), (12, .a (.int .i64 i))]
@[reducible] def EH (T w r q : Int) (bd : ByteArray) (at_ go se n : Int) (k0 k1 k2 k3 k4 k5 k6 : Int) (k7 : Bool) (k8 : ByteArray) : Hp :=
  [.cells [.int .u8 1, .int .u16 1, .int .u32 1] 25 false, .cells (sa 1 1 1 1 2 T w r q bd at_ go se false) 71 false, .cells (st 1 1 1 2 1 77 n false k0 k1 k2 k3 k4 k5 k6 k7 k8) 67 false]
@[reducible] def E1 (w r se : Int) (l : A) (i nn k : Int) : Frm := [(0, .a (.int .i64 w)), (1, .a (.int .i64 r)), (2, .a l), (7, .a (.ptr 0 0)), (8, .a (.ptr 1 0)), (10, .a (.ptr 2 0)), (11, .a (.int .i64 se)), (12, .a (.int .i64 i)), (13, .a (.int .i64 nn)), (14, .a (.ptr 3 0)), (16, .a (.int .i64 k))]
@[reducible] def EK (T w r q at_ go se n : Int) (k0 k1 k2 k3 k4 k5 k6 : Int) (k7 : Bool) (k8 : ByteArray) : Hp :=
  [.cells [.int .u8 1, .int .u16 1, .int .u32 1] 25 false, .cells (sa 1 1 1 1 2 T w r q bq at_ go se false) 71 false, .cells (st 1 1 1 2 1 77 n false k0 k1 k2 k3 k4 k5 k6 k7 k8) 67 false, .cells (fc 1 2 1 1 1 T q false bq) 34 false]
@[reducible] def E2 (w r se : Int) (l : A) (i nn k t : Int) : Frm := [(0, .a (.int .i64 w)), (1, .a (.int .i64 r)), (2, .a l), (7, .a (.ptr 0 0)), (8, .a (.ptr 1 0)), (10, .a (.ptr 2 0)), (11, .a (.int .i64 se)), (12, .a (.int .i64 i)), (13, .a (.int .i64 nn)), (14, .a (.ptr 3 0)), (16, .a (.int .i64 k)), (21, .a (.int .i64 t))]
theorem tkfresh {i : Nat} {T : Int} (h0 : i = 0 → T = 0) (h1 : 1 ≤ i → T = 77) : tk 1 1 1 2 1 77 i false 1 2 1 1 1 T ((i : Int) + 1) false = 2 := by
  unfold tk oursq
  by_cases hi : i = 0
  · obtain rfl := h0 hi
    subst hi
    decide
  · obtain rfl := h1 (by omega)
    rw [if_pos ⟨rfl, rfl, by decide, by rw [if_neg (by omega)]⟩, if_neg (by omega), if_pos rfl]
theorem tkrep {i : Nat} {T : Int} (h0 : i = 0 → T = 0) (h1 : 1 ≤ i → T = 77) : tk 1 1 1 2 1 77 ((i : Int) + 1) false 1 2 1 1 1 T ((i : Int) + 1) false = 1 := by
  unfold tk oursq
  by_cases hi : i = 0
  · obtain rfl := h0 hi
    subst hi
    decide
  · obtain rfl := h1 (by omega)
    rw [if_pos ⟨rfl, rfl, by decide, by rw [if_neg (by omega)]⟩, if_pos ⟨by omega, rfl⟩]
/- What the Answerer holds: the request i + 1 not yet taken, or taken and answered. -/
def Ans (i : Nat) (n : Int) (k0 k1 k2 k3 k4 k5 k6 : Int) (k7 : Bool) (k8 : ByteArray) : Prop :=
  n = i ∨ (n = (i : Int) + 1 ∧ k0 = 2 ∧ k1 = 1 ∧ k2 = 1 ∧ k3 = 1 ∧ k4 = 1 ∧ k5 = 77 ∧ k6 = (i : Int) + 1 ∧ k7 = true ∧ k8 = br)
section
variable {ro : Addr → A → Prop}
/- The Answerer takes the question: afterwards it is taken and answered. -/
theorem ans_take {i : Nat} {T n : Int} {k0 k1 k2 k3 k4 k5 k6 : Int} {k7 : Bool} {k8 : ByteArray} (hi : i ≤ 300) (h0 : i = 0 → T = 0) (h1 : 1 ≤ i → T = 77) (ha : Ans i n k0 k1 k2 k3 k4 k5 k6 k7 k8) {K : V → Hp → Prop}
    (hkr : n = (i : Int) + 1 → K (.t [.a (.str ⟨#[]⟩), .a (.bool false), .g (fc 2 1 1 1 1 77 ((i : Int) + 1) true br), .a (.bool true)]) [.cells (st 1 1 1 2 1 77 ((i : Int) + 1) false 2 1 1 1 1 77 ((i : Int) + 1) true br) 67 false])
    (hkf : n = i → K (.t [.a (.str bq), .a (.bool true), .g nofc, .a (.bool false)]) [.cells (st 1 1 1 2 1 77 ((i : Int) + 1) true k0 k1 k2 k3 k4 k5 k6 k7 k8) 67 false]) :
    Go.Eng.Fn Try.prog ro 9 [.a (.ptr 0 0), .g (fc 1 2 1 1 1 T ((i : Int) + 1) false bq)] [.cells (st 1 1 1 2 1 77 n false k0 k1 k2 k3 k4 k5 k6 k7 k8) 67 false] K := by
  rcases ha with rfl | ⟨rfl, rfl, rfl, rfl, rfl, rfl, rfl, rfl, rfl, rfl⟩
  · have ht := tkfresh h0 h1
    exact take9 _ _ _ _ _ _ _ _ _ _ _ _ _ _ _ _ _ _ _ _ _ _ _ _ _ _ (by omega) (by omega) (fun h => by rw [ht] at h; cases h) (fun h => by rw [ht] at h; cases h) (fun _ => hkf rfl)
  · have ht := tkrep h0 h1
    exact take9 _ _ _ _ _ _ _ _ _ _ _ _ _ _ _ _ _ _ _ _ _ _ _ _ _ _ (by omega) (by omega) (fun h => by rw [ht] at h; cases h) (fun _ => hkr rfl) (fun h => by rw [ht] at h; cases h)
end
set_option maxHeartbeats 0 in
theorem ends6 (W : World) (w0 r0 : Int) (p : Addr) (len cap : Nat) (G : Nat → List A) (hG : IsSl W 1 KI (.rslc p len cap) len cap G) (hlen : len ≤ maxLen) :
    Go.Eng.Fn Try.prog (roOf W) 6 [.a (.int .i64 w0), .a (.int .i64 r0), .a (.rslc p len cap)] [] (fun v _ => v = .a (.bool true)) := by
  refine Go.Eng.Fn.of 0 (gOf []) rfl Try.func6 rfl (Nat.le_of_ble_eq_true rfl) ?_
  conv => whnf
  refine Fn.frame [] (by rfl) (by exact trivial) (by rfl) (awake25 ?_)
  conv => whnf
  repeat' (first
    | ((with_reducible refine regx_of ?_ ?_); (· decide +kernel); conv => whnf)
    | ((with_reducible refine growx_pre ?_ ?_); (· exact ⟨_, rfl⟩); conv => whnf)
    | ((with_reducible refine needm_of ?_ ?_); (· first | assumption | exact decide_eq_true (by omega) | decide +kernel | (refine decide_eq_true ?_; simp (disch := omega) only [i64w]; omega)); conv => whnf)
    | ((with_reducible refine condm_pos ?_ ?_); (· assumption); conv => whnf)
    | ((with_reducible refine condm_neg ?_ ?_); (· assumption); conv => whnf)
    | ((with_reducible refine forceL_fv (by assumption) ?_); conv => whnf)
    | ((with_reducible refine forceL_rfv (by assumption) ?_); conv => whnf)
    | ((with_reducible refine forceNm_of ?_); conv => whnf)
    | ((with_reducible refine needm_of (fv_lenL (by assumption) (by assumption)) ?_); conv => whnf)
    | ((with_reducible refine optm_var (fv_strL (by assumption) (by assumption)) (fun s hs => ?_)); conv => whnf)
    | ((with_reducible refine forceA_of ?_); conv => whnf)
    | fail)
  obtain ⟨hw1, hw2⟩ := mod1 w0 7 (by decide) (by decide)
  obtain ⟨hr1, hr2⟩ := mod1 r0 16 (by decide) (by decide)
  generalize IntKind.i64.wrap (1 + (IntKind.i64.wrap (w0.tmod 7 + 7)).tmod 7) = w at *
  generalize IntKind.i64.wrap (1 + (IntKind.i64.wrap (r0.tmod 16 + 16)).tmod 16) = r at *
  refine Fn.frame [] (by rfl) (by exact trivial) (by rfl) (new14 _ _ _ _ _ _ _ (fun hw => absurd (⟨by omega, by omega, by omega, by omega⟩ : okn w r) hw) (fun hw => ?_))
  conv => whnf
  refine Fn.frame [] (by rfl) (by exact trivial) (by rfl) (new7 _ _ _ _ _ _ ?_)
  conv => whnf
  refine loopx_of (fun m F H => ∃ (i : Nat) (T se : Int) (bd : ByteArray) (go k0 k1 k2 k3 k4 k5 k6 : Int) (k7 : Bool) (k8 : ByteArray), F = E0 w r se (.rslc p len cap) i ∧ H = EH T w r i bd 0 go se i k0 k1 k2 k3 k4 k5 k6 k7 k8 ∧ i ≤ len ∧ i ≤ 300 ∧ m = len - i ∧ (i = 0 → T = 0) ∧ (1 ≤ i → T = 77)) len ?_ ?_
  · exact Into.weak [0, 1, 2] (E0 w r 0 (.rslc p len cap) 0) (EH 0 w r 0 ⟨#[]⟩ 0 0 0 0 0 0 0 0 0 0 0 false ⟨#[]⟩) ⟨0, 0, 0, _, _, _, _, _, _, _, _, _, _, _, rfl, rfl, Nat.zero_le _, by omega, rfl, fun _ => rfl, fun h => absurd h (by omega)⟩ ⟨rfl, rfl, rfl, rfl, rfl, rfl, rfl, rfl, trivial⟩ ⟨rfl, rfl, rfl, trivial⟩ rfl
  · rintro m F H ⟨i, T, se, bd, go, k0, k1, k2, k3, k4, k5, k6, k7, k8, rfl, rfl, hi, hi3, rfl, hT0, hT1⟩
    by_cases hil : i < len
    · have d1 : decide ((i : Int) < (len : Int)) = true := decide_eq_true (by omega)
      by_cases hi300 : i < 300
      · have d2 : decide ((i : Int) < 300) = true := decide_eq_true (by omega)
        obtain ⟨hf, hro⟩ := hG.get hil
        unfold KI at hf
        obtain ⟨x, q0, e0, b0, g0⟩ := Fits.int hf
        obtain rfl := Fits.nil g0
        rw [e0] at hro
        have ld : roOf W (p.add (i * 1)) (.int .i64 x) := hro 0 _ rfl
        clear hro e0 g0 hf hG b0
        obtain ⟨hn0, hn1⟩ := mod0 x r hr1 hr2
        have hz : IntKind.u32.wrap ((i : Int) + 1) = (i : Int) + 1 := wrap32 _ (by omega) (by omega)
        have h01 : IntKind.i64.wrap (0 + 1) = 1 := by decide
        conv => whnf
        repeat' (first
          | ((with_reducible refine regx_of ?_ ?_); (· decide +kernel); conv => whnf)
          | ((with_reducible refine growx_pre ?_ ?_); (· exact ⟨_, rfl⟩); conv => whnf)
          | ((with_reducible refine needm_of ?_ ?_); (· first | assumption | exact decide_eq_true (by omega) | decide +kernel | (refine decide_eq_true ?_; simp (disch := omega) only [i64w]; omega)); conv => whnf)
          | ((with_reducible refine condm_pos ?_ ?_); (· assumption); conv => whnf)
          | ((with_reducible refine condm_neg ?_ ?_); (· assumption); conv => whnf)
          | ((with_reducible refine forceL_fv (by assumption) ?_); conv => whnf)
          | ((with_reducible refine forceL_rfv (by assumption) ?_); conv => whnf)
          | ((with_reducible refine forceNm_of ?_); conv => whnf)
          | ((with_reducible refine needm_of (fv_lenL (by assumption) (by assumption)) ?_); conv => whnf)
          | ((with_reducible refine optm_var (fv_strL (by assumption) (by assumption)) (fun s hs => ?_)); conv => whnf)
          | ((with_reducible refine forceA_of ?_); conv => whnf)
          | (refine ⟨_, ld, ?_⟩; conv => whnf)
          | fail)
        generalize (IntKind.i64.wrap (IntKind.i64.wrap (x.tmod (IntKind.i64.wrap (r + 1)) + r) + 1)).tmod (IntKind.i64.wrap (r + 1)) = nn at *
        refine Fn.frame [1] (by rfl) (by exact ⟨rfl, trivial⟩) (by rfl) (ask16 _ _ _ _ _ _ _ _ _ _ _ _ _ _ _ (fun h1 => absurd h1 (by decide)) (fun h1 h2 => absurd h2 (by decide)) (fun h1 h2 h3 => absurd h3 (by omega)) (fun h1 h2 h3 z y s' hz' hy hs' => ?_))
        rw [hz] at hz'
        rw [h01] at hy
        subst hz' hy
        conv => whnf
        repeat' (first
          | ((with_reducible refine regx_of ?_ ?_); (· decide +kernel); conv => whnf)
          | ((with_reducible refine growx_pre ?_ ?_); (· exact ⟨_, rfl⟩); conv => whnf)
          | ((with_reducible refine needm_of ?_ ?_); (· first | assumption | exact decide_eq_true (by omega) | decide +kernel | (refine decide_eq_true ?_; simp (disch := omega) only [i64w]; omega)); conv => whnf)
          | ((with_reducible refine condm_pos ?_ ?_); (· assumption); conv => whnf)
          | ((with_reducible refine condm_neg ?_ ?_); (· assumption); conv => whnf)
          | ((with_reducible refine forceL_fv (by assumption) ?_); conv => whnf)
          | ((with_reducible refine forceL_rfv (by assumption) ?_); conv => whnf)
          | ((with_reducible refine forceNm_of ?_); conv => whnf)
          | ((with_reducible refine needm_of (fv_lenL (by assumption) (by assumption)) ?_); conv => whnf)
          | ((with_reducible refine optm_var (fv_strL (by assumption) (by assumption)) (fun s hs => ?_)); conv => whnf)
          | ((with_reducible refine forceA_of ?_); conv => whnf)
          | fail)
        refine loopx_of (fun m F H => ∃ (k : Nat) (s n k0 k1 k2 k3 k4 k5 k6 : Int) (k7 : Bool) (k8 : ByteArray), F = E1 w r s (.rslc p len cap) i nn k ∧ H = EK T w r ((i : Int) + 1) ((k : Int) + 1) 0 s n k0 k1 k2 k3 k4 k5 k6 k7 k8 ∧ (k : Int) ≤ nn ∧ m = (nn - k).toNat ∧ Ans i n k0 k1 k2 k3 k4 k5 k6 k7 k8) nn.toNat ?_ ?_
        · refine Into.weak [0, 1, 2, 3] (E1 w r s' (.rslc p len cap) i nn 0) (EK T w r ((i : Int) + 1) 1 0 s' i k0 k1 k2 k3 k4 k5 k6 k7 k8) ⟨0, s', _, _, _, _, _, _, _, _, _, _, rfl, rfl, hn0, by simp, .inl rfl⟩ ⟨rfl, rfl, rfl, rfl, rfl, rfl, ?_, rfl, rfl, rfl, rfl, trivial⟩ ⟨rfl, rfl, rfl, rfl, trivial⟩ rfl
          rw [hs']; rfl
        · clear hs' s'
          rintro m F H ⟨k, s, n, k0, k1, k2, k3, k4, k5, k6, k7, k8, rfl, rfl, hkn, rfl, hans⟩
          by_cases hk : (k : Int) < nn
          · have d3 : decide ((k : Int) < nn) = true := decide_eq_true hk
            conv => whnf
            repeat' (first
              | ((with_reducible refine regx_of ?_ ?_); (· decide +kernel); conv => whnf)
              | ((with_reducible refine growx_pre ?_ ?_); (· exact ⟨_, rfl⟩); conv => whnf)
              | ((with_reducible refine needm_of ?_ ?_); (· first | assumption | exact decide_eq_true (by omega) | decide +kernel | (refine decide_eq_true ?_; simp (disch := omega) only [i64w]; omega)); conv => whnf)
              | ((with_reducible refine condm_pos ?_ ?_); (· assumption); conv => whnf)
              | ((with_reducible refine condm_neg ?_ ?_); (· assumption); conv => whnf)
              | ((with_reducible refine forceL_fv (by assumption) ?_); conv => whnf)
              | ((with_reducible refine forceL_rfv (by assumption) ?_); conv => whnf)
              | ((with_reducible refine forceNm_of ?_); conv => whnf)
              | ((with_reducible refine needm_of (fv_lenL (by assumption) (by assumption)) ?_); conv => whnf)
              | ((with_reducible refine optm_var (fv_strL (by assumption) (by assumption)) (fun s hs => ?_)); conv => whnf)
              | ((with_reducible refine forceA_of ?_); conv => whnf)
              | (refine ⟨_, ld, ?_⟩; conv => whnf)
              | fail)
            refine condm_of (fun hev => ?_) (fun hev => ?_)
            · conv => whnf
              repeat' (first
                | ((with_reducible refine regx_of ?_ ?_); (· decide +kernel); conv => whnf)
                | ((with_reducible refine growx_pre ?_ ?_); (· exact ⟨_, rfl⟩); conv => whnf)
                | ((with_reducible refine needm_of ?_ ?_); (· first | assumption | exact decide_eq_true (by omega) | decide +kernel | (refine decide_eq_true ?_; simp (disch := omega) only [i64w]; omega)); conv => whnf)
                | ((with_reducible refine condm_pos ?_ ?_); (· assumption); conv => whnf)
                | ((with_reducible refine condm_neg ?_ ?_); (· assumption); conv => whnf)
                | ((with_reducible refine forceL_fv (by assumption) ?_); conv => whnf)
                | ((with_reducible refine forceL_rfv (by assumption) ?_); conv => whnf)
                | ((with_reducible refine forceNm_of ?_); conv => whnf)
                | ((with_reducible refine needm_of (fv_lenL (by assumption) (by assumption)) ?_); conv => whnf)
                | ((with_reducible refine optm_var (fv_strL (by assumption) (by assumption)) (fun s hs => ?_)); conv => whnf)
                | ((with_reducible refine forceA_of ?_); conv => whnf)
                | fail)
              refine Fn.frame [2] (by rfl) (by exact ⟨rfl, trivial⟩) (by rfl) (ans_take hi3 hT0 hT1 hans (fun hn => ?_) (fun hn => ?_))
              · have hans' : Ans i ((i : Int) + 1) 2 1 1 1 1 77 ((i : Int) + 1) true br := .inr ⟨rfl, rfl, rfl, rfl, rfl, rfl, rfl, rfl, rfl, rfl⟩
                clear hans
                conv => whnf
                repeat' (first
                  | ((with_reducible refine regx_of ?_ ?_); (· decide +kernel); conv => whnf)
                  | ((with_reducible refine growx_pre ?_ ?_); (· exact ⟨_, rfl⟩); conv => whnf)
                  | ((with_reducible refine needm_of ?_ ?_); (· first | assumption | exact decide_eq_true (by omega) | decide +kernel | (refine decide_eq_true ?_; simp (disch := omega) only [i64w]; omega)); conv => whnf)
                  | ((with_reducible refine condm_pos ?_ ?_); (· assumption); conv => whnf)
                  | ((with_reducible refine condm_neg ?_ ?_); (· assumption); conv => whnf)
                  | ((with_reducible refine forceL_fv (by assumption) ?_); conv => whnf)
                  | ((with_reducible refine forceL_rfv (by assumption) ?_); conv => whnf)
                  | ((with_reducible refine forceNm_of ?_); conv => whnf)
                  | ((with_reducible refine needm_of (fv_lenL (by assumption) (by assumption)) ?_); conv => whnf)
                  | ((with_reducible refine optm_var (fv_strL (by assumption) (by assumption)) (fun s hs => ?_)); conv => whnf)
                  | ((with_reducible refine forceA_of ?_); conv => whnf)
                  | fail)
                refine loopx_of (fun m F H => ∃ (t : Nat) (at_ go se2 n k0 k1 k2 k3 k4 k5 k6 : Int) (k7 : Bool) (k8 : ByteArray), F = E2 w r s (.rslc p len cap) i nn k t ∧ H = EK T w r ((i : Int) + 1) at_ go se2 n k0 k1 k2 k3 k4 k5 k6 k7 k8 ∧ 1 ≤ t ∧ (t : Int) ≤ w + 1 ∧ m = (w + 1 - t).toNat ∧ Ans i n k0 k1 k2 k3 k4 k5 k6 k7 k8 ∧
                    (((t : Int) ≤ w ∧ at_ = (k : Int) + 1 ∧ go = (t : Int) - 1 ∧ se2 = s) ∨ ((t : Int) = w + 1 ∧ at_ = (k : Int) + 1 + 1 ∧ go = 0 ∧ se2 = IntKind.i64.wrap (s + 1)))) w.toNat ?_ ?_
                · exact Into.weak [0, 1, 2, 3] (E2 w r s (.rslc p len cap) i nn k 1) (EK T w r ((i : Int) + 1) ((k : Int) + 1) 0 s _ _ _ _ _ _ _ _ _ _) ⟨1, _, _, _, _, _, _, _, _, _, _, _, _, _, rfl, rfl, Nat.le_refl _, by omega, by omega, hans', .inl ⟨by omega, rfl, by omega, rfl⟩⟩ ⟨rfl, rfl, rfl, rfl, rfl, rfl, rfl, rfl, rfl, rfl, rfl, rfl, trivial⟩ ⟨rfl, rfl, rfl, rfl, trivial⟩ rfl
                · clear hans'
                  rintro m F H ⟨t, at_, go₂, se2, n₂, j0, j1, j2, j3, j4, j5, j6, j7, j8, rfl, rfl, ht1, htw, rfl, hans₂, hcase⟩
                  have ew : IntKind.i64.wrap ((t : Int) - 1 + 1) = t := by rw [i64w (by omega) (by omega)]; omega
                  have et : IntKind.i64.wrap ((t : Int) + 1) = ((t + 1 : Nat) : Int) := by rw [i64w (by omega) (by omega)]; rfl
                  have ek : IntKind.i64.wrap ((k : Int) + 1) = ((k + 1 : Nat) : Int) := by rw [i64w (by omega) (by omega)]; rfl
                  have ek2 : IntKind.i64.wrap ((k : Int) + 1 + 1) = (k : Int) + 1 + 1 := i64w (by omega) (by omega)
                  have er : IntKind.i64.wrap (r - 1) = r - 1 := i64w (by omega) (by omega)
                  rcases hcase with ⟨htle, rfl, rfl, rfl⟩ | ⟨hte, rfl, rfl, rfl⟩
                  · have d4 : decide ((t : Int) ≤ w) = true := decide_eq_true htle
                    conv => whnf
                    repeat' (first
                      | ((with_reducible refine regx_of ?_ ?_); (· decide +kernel); conv => whnf)
                      | ((with_reducible refine growx_pre ?_ ?_); (· exact ⟨_, rfl⟩); conv => whnf)
                      | ((with_reducible refine needm_of ?_ ?_); (· first | assumption | exact decide_eq_true (by omega) | decide +kernel | (refine decide_eq_true ?_; simp (disch := omega) only [i64w]; omega)); conv => whnf)
                      | ((with_reducible refine condm_pos ?_ ?_); (· assumption); conv => whnf)
                      | ((with_reducible refine condm_neg ?_ ?_); (· assumption); conv => whnf)
                      | ((with_reducible refine forceL_fv (by assumption) ?_); conv => whnf)
                      | ((with_reducible refine forceL_rfv (by assumption) ?_); conv => whnf)
                      | ((with_reducible refine forceNm_of ?_); conv => whnf)
                      | ((with_reducible refine needm_of (fv_lenL (by assumption) (by assumption)) ?_); conv => whnf)
                      | ((with_reducible refine optm_var (fv_strL (by assumption) (by assumption)) (fun s hs => ?_)); conv => whnf)
                      | ((with_reducible refine forceA_of ?_); conv => whnf)
                      | fail)
                    refine Fn.frame [1] (by rfl) (by exact ⟨rfl, trivial⟩) (by rfl) (tick18 _ _ _ _ _ _ _ _ _ _ _ _ _ _ (fun h1 => absurd h1 (by decide)) (fun h1 h2 => absurd h2 (by omega)) (fun h1 h2 x' hx h3 => ?_) (fun h1 h2 x' hx h3 h4 => ?_) (fun h1 h2 x' hx h3 h4 y z hy hz2 => ?_))
                    · rw [ew] at hx
                      subst hx
                      have d5 : ((t : Int) == w) = false := by simp; omega
                      conv => whnf
                      repeat' (first
                        | ((with_reducible refine regx_of ?_ ?_); (· decide +kernel); conv => whnf)
                        | ((with_reducible refine growx_pre ?_ ?_); (· exact ⟨_, rfl⟩); conv => whnf)
                        | ((with_reducible refine needm_of ?_ ?_); (· first | assumption | exact decide_eq_true (by omega) | decide +kernel | (refine decide_eq_true ?_; simp (disch := omega) only [i64w]; omega)); conv => whnf)
                        | ((with_reducible refine condm_pos ?_ ?_); (· assumption); conv => whnf)
                        | ((with_reducible refine condm_neg ?_ ?_); (· assumption); conv => whnf)
                        | ((with_reducible refine forceL_fv (by assumption) ?_); conv => whnf)
                        | ((with_reducible refine forceL_rfv (by assumption) ?_); conv => whnf)
                        | ((with_reducible refine forceNm_of ?_); conv => whnf)
                        | ((with_reducible refine needm_of (fv_lenL (by assumption) (by assumption)) ?_); conv => whnf)
                        | ((with_reducible refine optm_var (fv_strL (by assumption) (by assumption)) (fun s hs => ?_)); conv => whnf)
                        | ((with_reducible refine forceA_of ?_); conv => whnf)
                        | ((with_reducible refine condm_pos ?_ ?_); (· simp [*]; done); conv => whnf)
                        | ((with_reducible refine condm_neg ?_ ?_); (· simp [*]; done); conv => whnf)
                        | ((with_reducible refine condm_of (fun h => ?_) (fun h => ?_)) <;> (conv => whnf))
                        | ((with_reducible refine And.intro ?_ ?_) <;> (conv => whnf))
                        | (refine ⟨_, EqAgg.of rfl, ?_⟩; conv => whnf)
                        | fail)
                      all_goals exact ⟨(w + 1 - ((t + 1 : Nat) : Int)).toNat, by omega, Into.weak [0, 1, 2, 3] (E2 w r se2 (.rslc p len cap) i nn k ((t + 1 : Nat) : Int)) (EK T w r ((i : Int) + 1) ((k : Int) + 1) (t : Int) se2 n₂ j0 j1 j2 j3 j4 j5 j6 j7 j8) ⟨t + 1, _, _, _, _, _, _, _, _, _, _, _, _, _, rfl, rfl, by omega, by omega, rfl, hans₂, .inl ⟨by omega, rfl, by omega, rfl⟩⟩ ⟨rfl, rfl, rfl, rfl, rfl, rfl, rfl, rfl, rfl, rfl, rfl, congrArg (fun z => some (V.a (.int .i64 z))) et, trivial⟩ ⟨rfl, rfl, rfl, rfl, trivial⟩ rfl⟩
                    · rw [ew] at hx
                      subst hx
                      have d5 : ((t : Int) == w) = true := by simp; omega
                      have d6 : ((k : Int) == IntKind.i64.wrap (r - 1)) = true := by rw [er]; simp; omega
                      conv => whnf
                      repeat' (first
                        | ((with_reducible refine regx_of ?_ ?_); (· decide +kernel); conv => whnf)
                        | ((with_reducible refine growx_pre ?_ ?_); (· exact ⟨_, rfl⟩); conv => whnf)
                        | ((with_reducible refine needm_of ?_ ?_); (· first | assumption | exact decide_eq_true (by omega) | decide +kernel | (refine decide_eq_true ?_; simp (disch := omega) only [i64w]; omega)); conv => whnf)
                        | ((with_reducible refine condm_pos ?_ ?_); (· assumption); conv => whnf)
                        | ((with_reducible refine condm_neg ?_ ?_); (· assumption); conv => whnf)
                        | ((with_reducible refine forceL_fv (by assumption) ?_); conv => whnf)
                        | ((with_reducible refine forceL_rfv (by assumption) ?_); conv => whnf)
                        | ((with_reducible refine forceNm_of ?_); conv => whnf)
                        | ((with_reducible refine needm_of (fv_lenL (by assumption) (by assumption)) ?_); conv => whnf)
                        | ((with_reducible refine optm_var (fv_strL (by assumption) (by assumption)) (fun s hs => ?_)); conv => whnf)
                        | ((with_reducible refine forceA_of ?_); conv => whnf)
                        | ((with_reducible refine condm_pos ?_ ?_); (· simp [*]; done); conv => whnf)
                        | ((with_reducible refine condm_neg ?_ ?_); (· simp [*]; done); conv => whnf)
                        | fail)
                      refine Fn.frame [1] (by rfl) (by exact ⟨rfl, trivial⟩) (by rfl) (waits22 _ _ _ _ _ _ _ _ _ _ _ _ _ _ (fun q hq => ?_))
                      obtain rfl : q = false := by rw [hq]; decide
                      conv => whnf
                      repeat' (first
                        | ((with_reducible refine regx_of ?_ ?_); (· decide +kernel); conv => whnf)
                        | ((with_reducible refine growx_pre ?_ ?_); (· exact ⟨_, rfl⟩); conv => whnf)
                        | ((with_reducible refine needm_of ?_ ?_); (· first | assumption | exact decide_eq_true (by omega) | decide +kernel | (refine decide_eq_true ?_; simp (disch := omega) only [i64w]; omega)); conv => whnf)
                        | ((with_reducible refine condm_pos ?_ ?_); (· assumption); conv => whnf)
                        | ((with_reducible refine condm_neg ?_ ?_); (· assumption); conv => whnf)
                        | ((with_reducible refine forceL_fv (by assumption) ?_); conv => whnf)
                        | ((with_reducible refine forceL_rfv (by assumption) ?_); conv => whnf)
                        | ((with_reducible refine forceNm_of ?_); conv => whnf)
                        | ((with_reducible refine needm_of (fv_lenL (by assumption) (by assumption)) ?_); conv => whnf)
                        | ((with_reducible refine optm_var (fv_strL (by assumption) (by assumption)) (fun s hs => ?_)); conv => whnf)
                        | ((with_reducible refine forceA_of ?_); conv => whnf)
                        | ((with_reducible refine condm_pos ?_ ?_); (· simp [*]; done); conv => whnf)
                        | ((with_reducible refine condm_neg ?_ ?_); (· simp [*]; done); conv => whnf)
                        | fail)
                      refine Fn.frame [1] (by rfl) (by exact ⟨rfl, trivial⟩) (by rfl) (ask16 _ _ _ _ _ _ _ _ _ _ _ _ _ _ _ (fun g1 => ?_) (fun g1 => absurd g1 (by decide)) (fun g1 => absurd g1 (by decide)) (fun g1 => absurd g1 (by decide)))
                      conv => whnf
                      repeat' (first
                        | ((with_reducible refine regx_of ?_ ?_); (· decide +kernel); conv => whnf)
                        | ((with_reducible refine growx_pre ?_ ?_); (· exact ⟨_, rfl⟩); conv => whnf)
                        | ((with_reducible refine needm_of ?_ ?_); (· first | assumption | exact decide_eq_true (by omega) | decide +kernel | (refine decide_eq_true ?_; simp (disch := omega) only [i64w]; omega)); conv => whnf)
                        | ((with_reducible refine condm_pos ?_ ?_); (· assumption); conv => whnf)
                        | ((with_reducible refine condm_neg ?_ ?_); (· assumption); conv => whnf)
                        | ((with_reducible refine forceL_fv (by assumption) ?_); conv => whnf)
                        | ((with_reducible refine forceL_rfv (by assumption) ?_); conv => whnf)
                        | ((with_reducible refine forceNm_of ?_); conv => whnf)
                        | ((with_reducible refine needm_of (fv_lenL (by assumption) (by assumption)) ?_); conv => whnf)
                        | ((with_reducible refine optm_var (fv_strL (by assumption) (by assumption)) (fun s hs => ?_)); conv => whnf)
                        | ((with_reducible refine forceA_of ?_); conv => whnf)
                        | ((with_reducible refine condm_pos ?_ ?_); (· simp [*]; done); conv => whnf)
                        | ((with_reducible refine condm_neg ?_ ?_); (· simp [*]; done); conv => whnf)
                        | fail)
                      refine Fn.frame [1] (by rfl) (by exact ⟨rfl, trivial⟩) (by rfl) (sent24 _ _ _ _ _ _ _ _ _ _ _ _ _ _ ?_)
                      conv => whnf
                      repeat' (first
                        | ((with_reducible refine regx_of ?_ ?_); (· decide +kernel); conv => whnf)
                        | ((with_reducible refine growx_pre ?_ ?_); (· exact ⟨_, rfl⟩); conv => whnf)
                        | ((with_reducible refine needm_of ?_ ?_); (· first | assumption | exact decide_eq_true (by omega) | decide +kernel | (refine decide_eq_true ?_; simp (disch := omega) only [i64w]; omega)); conv => whnf)
                        | ((with_reducible refine condm_pos ?_ ?_); (· assumption); conv => whnf)
                        | ((with_reducible refine condm_neg ?_ ?_); (· assumption); conv => whnf)
                        | ((with_reducible refine forceL_fv (by assumption) ?_); conv => whnf)
                        | ((with_reducible refine forceL_rfv (by assumption) ?_); conv => whnf)
                        | ((with_reducible refine forceNm_of ?_); conv => whnf)
                        | ((with_reducible refine needm_of (fv_lenL (by assumption) (by assumption)) ?_); conv => whnf)
                        | ((with_reducible refine optm_var (fv_strL (by assumption) (by assumption)) (fun s hs => ?_)); conv => whnf)
                        | ((with_reducible refine forceA_of ?_); conv => whnf)
                        | ((with_reducible refine condm_pos ?_ ?_); (· simp [*]; done); conv => whnf)
                        | ((with_reducible refine condm_neg ?_ ?_); (· simp [*]; done); conv => whnf)
                        | fail)
                      refine congrArg (fun b => V.a (A.bool b)) ?_
                      simp [*]
                    · rw [ew] at hx
                      subst hx
                      rw [ek2] at hy
                      subst hy
                      have d5 : ((t : Int) == w) = true := by simp; omega
                      have d6 : ((k : Int) == IntKind.i64.wrap (r - 1)) = false := by rw [er]; simp; omega
                      conv => whnf
                      repeat' (first
                        | ((with_reducible refine regx_of ?_ ?_); (· decide +kernel); conv => whnf)
                        | ((with_reducible refine growx_pre ?_ ?_); (· exact ⟨_, rfl⟩); conv => whnf)
                        | ((with_reducible refine needm_of ?_ ?_); (· first | assumption | exact decide_eq_true (by omega) | decide +kernel | (refine decide_eq_true ?_; simp (disch := omega) only [i64w]; omega)); conv => whnf)
                        | ((with_reducible refine condm_pos ?_ ?_); (· assumption); conv => whnf)
                        | ((with_reducible refine condm_neg ?_ ?_); (· assumption); conv => whnf)
                        | ((with_reducible refine forceL_fv (by assumption) ?_); conv => whnf)
                        | ((with_reducible refine forceL_rfv (by assumption) ?_); conv => whnf)
                        | ((with_reducible refine forceNm_of ?_); conv => whnf)
                        | ((with_reducible refine needm_of (fv_lenL (by assumption) (by assumption)) ?_); conv => whnf)
                        | ((with_reducible refine optm_var (fv_strL (by assumption) (by assumption)) (fun s hs => ?_)); conv => whnf)
                        | ((with_reducible refine forceA_of ?_); conv => whnf)
                        | ((with_reducible refine condm_pos ?_ ?_); (· simp [*]; done); conv => whnf)
                        | ((with_reducible refine condm_neg ?_ ?_); (· simp [*]; done); conv => whnf)
                        | ((with_reducible refine condm_of (fun h => ?_) (fun h => ?_)) <;> (conv => whnf))
                        | ((with_reducible refine And.intro ?_ ?_) <;> (conv => whnf))
                        | (refine ⟨_, EqAgg.of rfl, ?_⟩; conv => whnf)
                        | fail)
                      all_goals exact ⟨(w + 1 - ((t + 1 : Nat) : Int)).toNat, by omega, Into.weak [0, 1, 2, 3] (E2 w r se2 (.rslc p len cap) i nn k ((t + 1 : Nat) : Int)) (EK T w r ((i : Int) + 1) ((k : Int) + 1 + 1) 0 z n₂ j0 j1 j2 j3 j4 j5 j6 j7 j8) ⟨t + 1, _, _, _, _, _, _, _, _, _, _, _, _, _, rfl, rfl, by omega, by omega, rfl, hans₂, .inr ⟨by omega, rfl, rfl, hz2⟩⟩ ⟨rfl, rfl, rfl, rfl, rfl, rfl, rfl, rfl, rfl, rfl, rfl, congrArg (fun z => some (V.a (.int .i64 z))) et, trivial⟩ ⟨rfl, rfl, rfl, rfl, trivial⟩ rfl⟩
                  · have d4 : decide ((t : Int) ≤ w) = false := decide_eq_false (by omega)
                    conv => whnf
                    repeat' (first
                      | ((with_reducible refine regx_of ?_ ?_); (· decide +kernel); conv => whnf)
                      | ((with_reducible refine growx_pre ?_ ?_); (· exact ⟨_, rfl⟩); conv => whnf)
                      | ((with_reducible refine needm_of ?_ ?_); (· first | assumption | exact decide_eq_true (by omega) | decide +kernel | (refine decide_eq_true ?_; simp (disch := omega) only [i64w]; omega)); conv => whnf)
                      | ((with_reducible refine condm_pos ?_ ?_); (· assumption); conv => whnf)
                      | ((with_reducible refine condm_neg ?_ ?_); (· assumption); conv => whnf)
                      | ((with_reducible refine forceL_fv (by assumption) ?_); conv => whnf)
                      | ((with_reducible refine forceL_rfv (by assumption) ?_); conv => whnf)
                      | ((with_reducible refine forceNm_of ?_); conv => whnf)
                      | ((with_reducible refine needm_of (fv_lenL (by assumption) (by assumption)) ?_); conv => whnf)
                      | ((with_reducible refine optm_var (fv_strL (by assumption) (by assumption)) (fun s hs => ?_)); conv => whnf)
                      | ((with_reducible refine forceA_of ?_); conv => whnf)
                      | fail)
                    exact ⟨(nn - ((k + 1 : Nat) : Int)).toNat, by omega, Into.weak [0, 1, 2, 3] (E1 w r (IntKind.i64.wrap (s + 1)) (.rslc p len cap) i nn ((k + 1 : Nat) : Int)) (EK T w r ((i : Int) + 1) ((k : Int) + 1 + 1) 0 (IntKind.i64.wrap (s + 1)) n₂ j0 j1 j2 j3 j4 j5 j6 j7 j8) ⟨k + 1, _, _, _, _, _, _, _, _, _, _, _, rfl, rfl, by omega, rfl, hans₂⟩ ⟨rfl, rfl, rfl, rfl, rfl, rfl, rfl, rfl, rfl, rfl, congrArg (fun z => some (V.a (.int .i64 z))) ek, trivial⟩ ⟨rfl, rfl, rfl, rfl, trivial⟩ rfl⟩
              · conv => whnf
                repeat' (first
                  | ((with_reducible refine regx_of ?_ ?_); (· decide +kernel); conv => whnf)
                  | ((with_reducible refine growx_pre ?_ ?_); (· exact ⟨_, rfl⟩); conv => whnf)
                  | ((with_reducible refine needm_of ?_ ?_); (· first | assumption | exact decide_eq_true (by omega) | decide +kernel | (refine decide_eq_true ?_; simp (disch := omega) only [i64w]; omega)); conv => whnf)
                  | ((with_reducible refine condm_pos ?_ ?_); (· assumption); conv => whnf)
                  | ((with_reducible refine condm_neg ?_ ?_); (· assumption); conv => whnf)
                  | ((with_reducible refine forceL_fv (by assumption) ?_); conv => whnf)
                  | ((with_reducible refine forceL_rfv (by assumption) ?_); conv => whnf)
                  | ((with_reducible refine forceNm_of ?_); conv => whnf)
                  | ((with_reducible refine needm_of (fv_lenL (by assumption) (by assumption)) ?_); conv => whnf)
                  | ((with_reducible refine optm_var (fv_strL (by assumption) (by assumption)) (fun s hs => ?_)); conv => whnf)
                  | ((with_reducible refine forceA_of ?_); conv => whnf)
                  | fail)
                refine Fn.frame [2] (by rfl) (by exact ⟨rfl, trivial⟩) (by rfl) (reply11 _ _ _ _ _ _ _ _ _ _ _ _ _ _ _ _ _ _ (fun h => absurd h (by decide)) (fun h => ?_))
                have hans' : Ans i ((i : Int) + 1) 2 1 1 1 1 77 ((i : Int) + 1) true br := .inr ⟨rfl, rfl, rfl, rfl, rfl, rfl, rfl, rfl, rfl, rfl⟩
                clear hans
                conv => whnf
                repeat' (first
                  | ((with_reducible refine regx_of ?_ ?_); (· decide +kernel); conv => whnf)
                  | ((with_reducible refine growx_pre ?_ ?_); (· exact ⟨_, rfl⟩); conv => whnf)
                  | ((with_reducible refine needm_of ?_ ?_); (· first | assumption | exact decide_eq_true (by omega) | decide +kernel | (refine decide_eq_true ?_; simp (disch := omega) only [i64w]; omega)); conv => whnf)
                  | ((with_reducible refine condm_pos ?_ ?_); (· assumption); conv => whnf)
                  | ((with_reducible refine condm_neg ?_ ?_); (· assumption); conv => whnf)
                  | ((with_reducible refine forceL_fv (by assumption) ?_); conv => whnf)
                  | ((with_reducible refine forceL_rfv (by assumption) ?_); conv => whnf)
                  | ((with_reducible refine forceNm_of ?_); conv => whnf)
                  | ((with_reducible refine needm_of (fv_lenL (by assumption) (by assumption)) ?_); conv => whnf)
                  | ((with_reducible refine optm_var (fv_strL (by assumption) (by assumption)) (fun s hs => ?_)); conv => whnf)
                  | ((with_reducible refine forceA_of ?_); conv => whnf)
                  | fail)
                refine loopx_of (fun m F H => ∃ (t : Nat) (at_ go se2 n k0 k1 k2 k3 k4 k5 k6 : Int) (k7 : Bool) (k8 : ByteArray), F = E2 w r s (.rslc p len cap) i nn k t ∧ H = EK T w r ((i : Int) + 1) at_ go se2 n k0 k1 k2 k3 k4 k5 k6 k7 k8 ∧ 1 ≤ t ∧ (t : Int) ≤ w + 1 ∧ m = (w + 1 - t).toNat ∧ Ans i n k0 k1 k2 k3 k4 k5 k6 k7 k8 ∧
                    (((t : Int) ≤ w ∧ at_ = (k : Int) + 1 ∧ go = (t : Int) - 1 ∧ se2 = s) ∨ ((t : Int) = w + 1 ∧ at_ = (k : Int) + 1 + 1 ∧ go = 0 ∧ se2 = IntKind.i64.wrap (s + 1)))) w.toNat ?_ ?_
                · exact Into.weak [0, 1, 2, 3] (E2 w r s (.rslc p len cap) i nn k 1) (EK T w r ((i : Int) + 1) ((k : Int) + 1) 0 s _ _ _ _ _ _ _ _ _ _) ⟨1, _, _, _, _, _, _, _, _, _, _, _, _, _, rfl, rfl, Nat.le_refl _, by omega, by omega, hans', .inl ⟨by omega, rfl, by omega, rfl⟩⟩ ⟨rfl, rfl, rfl, rfl, rfl, rfl, rfl, rfl, rfl, rfl, rfl, rfl, trivial⟩ ⟨rfl, rfl, rfl, rfl, trivial⟩ rfl
                · clear hans'
                  rintro m F H ⟨t, at_, go₂, se2, n₂, j0, j1, j2, j3, j4, j5, j6, j7, j8, rfl, rfl, ht1, htw, rfl, hans₂, hcase⟩
                  have ew : IntKind.i64.wrap ((t : Int) - 1 + 1) = t := by rw [i64w (by omega) (by omega)]; omega
                  have et : IntKind.i64.wrap ((t : Int) + 1) = ((t + 1 : Nat) : Int) := by rw [i64w (by omega) (by omega)]; rfl
                  have ek : IntKind.i64.wrap ((k : Int) + 1) = ((k + 1 : Nat) : Int) := by rw [i64w (by omega) (by omega)]; rfl
                  have ek2 : IntKind.i64.wrap ((k : Int) + 1 + 1) = (k : Int) + 1 + 1 := i64w (by omega) (by omega)
                  have er : IntKind.i64.wrap (r - 1) = r - 1 := i64w (by omega) (by omega)
                  rcases hcase with ⟨htle, rfl, rfl, rfl⟩ | ⟨hte, rfl, rfl, rfl⟩
                  · have d4 : decide ((t : Int) ≤ w) = true := decide_eq_true htle
                    conv => whnf
                    repeat' (first
                      | ((with_reducible refine regx_of ?_ ?_); (· decide +kernel); conv => whnf)
                      | ((with_reducible refine growx_pre ?_ ?_); (· exact ⟨_, rfl⟩); conv => whnf)
                      | ((with_reducible refine needm_of ?_ ?_); (· first | assumption | exact decide_eq_true (by omega) | decide +kernel | (refine decide_eq_true ?_; simp (disch := omega) only [i64w]; omega)); conv => whnf)
                      | ((with_reducible refine condm_pos ?_ ?_); (· assumption); conv => whnf)
                      | ((with_reducible refine condm_neg ?_ ?_); (· assumption); conv => whnf)
                      | ((with_reducible refine forceL_fv (by assumption) ?_); conv => whnf)
                      | ((with_reducible refine forceL_rfv (by assumption) ?_); conv => whnf)
                      | ((with_reducible refine forceNm_of ?_); conv => whnf)
                      | ((with_reducible refine needm_of (fv_lenL (by assumption) (by assumption)) ?_); conv => whnf)
                      | ((with_reducible refine optm_var (fv_strL (by assumption) (by assumption)) (fun s hs => ?_)); conv => whnf)
                      | ((with_reducible refine forceA_of ?_); conv => whnf)
                      | fail)
                    refine Fn.frame [1] (by rfl) (by exact ⟨rfl, trivial⟩) (by rfl) (tick18 _ _ _ _ _ _ _ _ _ _ _ _ _ _ (fun h1 => absurd h1 (by decide)) (fun h1 h2 => absurd h2 (by omega)) (fun h1 h2 x' hx h3 => ?_) (fun h1 h2 x' hx h3 h4 => ?_) (fun h1 h2 x' hx h3 h4 y z hy hz2 => ?_))
                    · rw [ew] at hx
                      subst hx
                      have d5 : ((t : Int) == w) = false := by simp; omega
                      conv => whnf
                      repeat' (first
                        | ((with_reducible refine regx_of ?_ ?_); (· decide +kernel); conv => whnf)
                        | ((with_reducible refine growx_pre ?_ ?_); (· exact ⟨_, rfl⟩); conv => whnf)
                        | ((with_reducible refine needm_of ?_ ?_); (· first | assumption | exact decide_eq_true (by omega) | decide +kernel | (refine decide_eq_true ?_; simp (disch := omega) only [i64w]; omega)); conv => whnf)
                        | ((with_reducible refine condm_pos ?_ ?_); (· assumption); conv => whnf)
                        | ((with_reducible refine condm_neg ?_ ?_); (· assumption); conv => whnf)
                        | ((with_reducible refine forceL_fv (by assumption) ?_); conv => whnf)
                        | ((with_reducible refine forceL_rfv (by assumption) ?_); conv => whnf)
                        | ((with_reducible refine forceNm_of ?_); conv => whnf)
                        | ((with_reducible refine needm_of (fv_lenL (by assumption) (by assumption)) ?_); conv => whnf)
                        | ((with_reducible refine optm_var (fv_strL (by assumption) (by assumption)) (fun s hs => ?_)); conv => whnf)
                        | ((with_reducible refine forceA_of ?_); conv => whnf)
                        | ((with_reducible refine condm_pos ?_ ?_); (· simp [*]; done); conv => whnf)
                        | ((with_reducible refine condm_neg ?_ ?_); (· simp [*]; done); conv => whnf)
                        | ((with_reducible refine condm_of (fun h => ?_) (fun h => ?_)) <;> (conv => whnf))
                        | ((with_reducible refine And.intro ?_ ?_) <;> (conv => whnf))
                        | (refine ⟨_, EqAgg.of rfl, ?_⟩; conv => whnf)
                        | fail)
                      all_goals exact ⟨(w + 1 - ((t + 1 : Nat) : Int)).toNat, by omega, Into.weak [0, 1, 2, 3] (E2 w r se2 (.rslc p len cap) i nn k ((t + 1 : Nat) : Int)) (EK T w r ((i : Int) + 1) ((k : Int) + 1) (t : Int) se2 n₂ j0 j1 j2 j3 j4 j5 j6 j7 j8) ⟨t + 1, _, _, _, _, _, _, _, _, _, _, _, _, _, rfl, rfl, by omega, by omega, rfl, hans₂, .inl ⟨by omega, rfl, by omega, rfl⟩⟩ ⟨rfl, rfl, rfl, rfl, rfl, rfl, rfl, rfl, rfl, rfl, rfl, congrArg (fun z => some (V.a (.int .i64 z))) et, trivial⟩ ⟨rfl, rfl, rfl, rfl, trivial⟩ rfl⟩
                    · rw [ew] at hx
                      subst hx
                      have d5 : ((t : Int) == w) = true := by simp; omega
                      have d6 : ((k : Int) == IntKind.i64.wrap (r - 1)) = true := by rw [er]; simp; omega
                      conv => whnf
                      repeat' (first
                        | ((with_reducible refine regx_of ?_ ?_); (· decide +kernel); conv => whnf)
                        | ((with_reducible refine growx_pre ?_ ?_); (· exact ⟨_, rfl⟩); conv => whnf)
                        | ((with_reducible refine needm_of ?_ ?_); (· first | assumption | exact decide_eq_true (by omega) | decide +kernel | (refine decide_eq_true ?_; simp (disch := omega) only [i64w]; omega)); conv => whnf)
                        | ((with_reducible refine condm_pos ?_ ?_); (· assumption); conv => whnf)
                        | ((with_reducible refine condm_neg ?_ ?_); (· assumption); conv => whnf)
                        | ((with_reducible refine forceL_fv (by assumption) ?_); conv => whnf)
                        | ((with_reducible refine forceL_rfv (by assumption) ?_); conv => whnf)
                        | ((with_reducible refine forceNm_of ?_); conv => whnf)
                        | ((with_reducible refine needm_of (fv_lenL (by assumption) (by assumption)) ?_); conv => whnf)
                        | ((with_reducible refine optm_var (fv_strL (by assumption) (by assumption)) (fun s hs => ?_)); conv => whnf)
                        | ((with_reducible refine forceA_of ?_); conv => whnf)
                        | ((with_reducible refine condm_pos ?_ ?_); (· simp [*]; done); conv => whnf)
                        | ((with_reducible refine condm_neg ?_ ?_); (· simp [*]; done); conv => whnf)
                        | fail)
                      refine Fn.frame [1] (by rfl) (by exact ⟨rfl, trivial⟩) (by rfl) (waits22 _ _ _ _ _ _ _ _ _ _ _ _ _ _ (fun q hq => ?_))
                      obtain rfl : q = false := by rw [hq]; decide
                      conv => whnf
                      repeat' (first
                        | ((with_reducible refine regx_of ?_ ?_); (· decide +kernel); conv => whnf)
                        | ((with_reducible refine growx_pre ?_ ?_); (· exact ⟨_, rfl⟩); conv => whnf)
                        | ((with_reducible refine needm_of ?_ ?_); (· first | assumption | exact decide_eq_true (by omega) | decide +kernel | (refine decide_eq_true ?_; simp (disch := omega) only [i64w]; omega)); conv => whnf)
                        | ((with_reducible refine condm_pos ?_ ?_); (· assumption); conv => whnf)
                        | ((with_reducible refine condm_neg ?_ ?_); (· assumption); conv => whnf)
                        | ((with_reducible refine forceL_fv (by assumption) ?_); conv => whnf)
                        | ((with_reducible refine forceL_rfv (by assumption) ?_); conv => whnf)
                        | ((with_reducible refine forceNm_of ?_); conv => whnf)
                        | ((with_reducible refine needm_of (fv_lenL (by assumption) (by assumption)) ?_); conv => whnf)
                        | ((with_reducible refine optm_var (fv_strL (by assumption) (by assumption)) (fun s hs => ?_)); conv => whnf)
                        | ((with_reducible refine forceA_of ?_); conv => whnf)
                        | ((with_reducible refine condm_pos ?_ ?_); (· simp [*]; done); conv => whnf)
                        | ((with_reducible refine condm_neg ?_ ?_); (· simp [*]; done); conv => whnf)
                        | fail)
                      refine Fn.frame [1] (by rfl) (by exact ⟨rfl, trivial⟩) (by rfl) (ask16 _ _ _ _ _ _ _ _ _ _ _ _ _ _ _ (fun g1 => ?_) (fun g1 => absurd g1 (by decide)) (fun g1 => absurd g1 (by decide)) (fun g1 => absurd g1 (by decide)))
                      conv => whnf
                      repeat' (first
                        | ((with_reducible refine regx_of ?_ ?_); (· decide +kernel); conv => whnf)
                        | ((with_reducible refine growx_pre ?_ ?_); (· exact ⟨_, rfl⟩); conv => whnf)
                        | ((with_reducible refine needm_of ?_ ?_); (· first | assumption | exact decide_eq_true (by omega) | decide +kernel | (refine decide_eq_true ?_; simp (disch := omega) only [i64w]; omega)); conv => whnf)
                        | ((with_reducible refine condm_pos ?_ ?_); (· assumption); conv => whnf)
                        | ((with_reducible refine condm_neg ?_ ?_); (· assumption); conv => whnf)
                        | ((with_reducible refine forceL_fv (by assumption) ?_); conv => whnf)
                        | ((with_reducible refine forceL_rfv (by assumption) ?_); conv => whnf)
                        | ((with_reducible refine forceNm_of ?_); conv => whnf)
                        | ((with_reducible refine needm_of (fv_lenL (by assumption) (by assumption)) ?_); conv => whnf)
                        | ((with_reducible refine optm_var (fv_strL (by assumption) (by assumption)) (fun s hs => ?_)); conv => whnf)
                        | ((with_reducible refine forceA_of ?_); conv => whnf)
                        | ((with_reducible refine condm_pos ?_ ?_); (· simp [*]; done); conv => whnf)
                        | ((with_reducible refine condm_neg ?_ ?_); (· simp [*]; done); conv => whnf)
                        | fail)
                      refine Fn.frame [1] (by rfl) (by exact ⟨rfl, trivial⟩) (by rfl) (sent24 _ _ _ _ _ _ _ _ _ _ _ _ _ _ ?_)
                      conv => whnf
                      repeat' (first
                        | ((with_reducible refine regx_of ?_ ?_); (· decide +kernel); conv => whnf)
                        | ((with_reducible refine growx_pre ?_ ?_); (· exact ⟨_, rfl⟩); conv => whnf)
                        | ((with_reducible refine needm_of ?_ ?_); (· first | assumption | exact decide_eq_true (by omega) | decide +kernel | (refine decide_eq_true ?_; simp (disch := omega) only [i64w]; omega)); conv => whnf)
                        | ((with_reducible refine condm_pos ?_ ?_); (· assumption); conv => whnf)
                        | ((with_reducible refine condm_neg ?_ ?_); (· assumption); conv => whnf)
                        | ((with_reducible refine forceL_fv (by assumption) ?_); conv => whnf)
                        | ((with_reducible refine forceL_rfv (by assumption) ?_); conv => whnf)
                        | ((with_reducible refine forceNm_of ?_); conv => whnf)
                        | ((with_reducible refine needm_of (fv_lenL (by assumption) (by assumption)) ?_); conv => whnf)
                        | ((with_reducible refine optm_var (fv_strL (by assumption) (by assumption)) (fun s hs => ?_)); conv => whnf)
                        | ((with_reducible refine forceA_of ?_); conv => whnf)
                        | ((with_reducible refine condm_pos ?_ ?_); (· simp [*]; done); conv => whnf)
                        | ((with_reducible refine condm_neg ?_ ?_); (· simp [*]; done); conv => whnf)
                        | fail)
                      refine congrArg (fun b => V.a (A.bool b)) ?_
                      simp [*]
                    · rw [ew] at hx
                      subst hx
                      rw [ek2] at hy
                      subst hy
                      have d5 : ((t : Int) == w) = true := by simp; omega
                      have d6 : ((k : Int) == IntKind.i64.wrap (r - 1)) = false := by rw [er]; simp; omega
                      conv => whnf
                      repeat' (first
                        | ((with_reducible refine regx_of ?_ ?_); (· decide +kernel); conv => whnf)
                        | ((with_reducible refine growx_pre ?_ ?_); (· exact ⟨_, rfl⟩); conv => whnf)
                        | ((with_reducible refine needm_of ?_ ?_); (· first | assumption | exact decide_eq_true (by omega) | decide +kernel | (refine decide_eq_true ?_; simp (disch := omega) only [i64w]; omega)); conv => whnf)
                        | ((with_reducible refine condm_pos ?_ ?_); (· assumption); conv => whnf)
                        | ((with_reducible refine condm_neg ?_ ?_); (· assumption); conv => whnf)
                        | ((with_reducible refine forceL_fv (by assumption) ?_); conv => whnf)
                        | ((with_reducible refine forceL_rfv (by assumption) ?_); conv => whnf)
                        | ((with_reducible refine forceNm_of ?_); conv => whnf)
                        | ((with_reducible refine needm_of (fv_lenL (by assumption) (by assumption)) ?_); conv => whnf)
                        | ((with_reducible refine optm_var (fv_strL (by assumption) (by assumption)) (fun s hs => ?_)); conv => whnf)
                        | ((with_reducible refine forceA_of ?_); conv => whnf)
                        | ((with_reducible refine condm_pos ?_ ?_); (· simp [*]; done); conv => whnf)
                        | ((with_reducible refine condm_neg ?_ ?_); (· simp [*]; done); conv => whnf)
                        | ((with_reducible refine condm_of (fun h => ?_) (fun h => ?_)) <;> (conv => whnf))
                        | ((with_reducible refine And.intro ?_ ?_) <;> (conv => whnf))
                        | (refine ⟨_, EqAgg.of rfl, ?_⟩; conv => whnf)
                        | fail)
                      all_goals exact ⟨(w + 1 - ((t + 1 : Nat) : Int)).toNat, by omega, Into.weak [0, 1, 2, 3] (E2 w r se2 (.rslc p len cap) i nn k ((t + 1 : Nat) : Int)) (EK T w r ((i : Int) + 1) ((k : Int) + 1 + 1) 0 z n₂ j0 j1 j2 j3 j4 j5 j6 j7 j8) ⟨t + 1, _, _, _, _, _, _, _, _, _, _, _, _, _, rfl, rfl, by omega, by omega, rfl, hans₂, .inr ⟨by omega, rfl, rfl, hz2⟩⟩ ⟨rfl, rfl, rfl, rfl, rfl, rfl, rfl, rfl, rfl, rfl, rfl, congrArg (fun z => some (V.a (.int .i64 z))) et, trivial⟩ ⟨rfl, rfl, rfl, rfl, trivial⟩ rfl⟩
                  · have d4 : decide ((t : Int) ≤ w) = false := decide_eq_false (by omega)
                    conv => whnf
                    repeat' (first
                      | ((with_reducible refine regx_of ?_ ?_); (· decide +kernel); conv => whnf)
                      | ((with_reducible refine growx_pre ?_ ?_); (· exact ⟨_, rfl⟩); conv => whnf)
                      | ((with_reducible refine needm_of ?_ ?_); (· first | assumption | exact decide_eq_true (by omega) | decide +kernel | (refine decide_eq_true ?_; simp (disch := omega) only [i64w]; omega)); conv => whnf)
                      | ((with_reducible refine condm_pos ?_ ?_); (· assumption); conv => whnf)
                      | ((with_reducible refine condm_neg ?_ ?_); (· assumption); conv => whnf)
                      | ((with_reducible refine forceL_fv (by assumption) ?_); conv => whnf)
                      | ((with_reducible refine forceL_rfv (by assumption) ?_); conv => whnf)
                      | ((with_reducible refine forceNm_of ?_); conv => whnf)
                      | ((with_reducible refine needm_of (fv_lenL (by assumption) (by assumption)) ?_); conv => whnf)
                      | ((with_reducible refine optm_var (fv_strL (by assumption) (by assumption)) (fun s hs => ?_)); conv => whnf)
                      | ((with_reducible refine forceA_of ?_); conv => whnf)
                      | fail)
                    exact ⟨(nn - ((k + 1 : Nat) : Int)).toNat, by omega, Into.weak [0, 1, 2, 3] (E1 w r (IntKind.i64.wrap (s + 1)) (.rslc p len cap) i nn ((k + 1 : Nat) : Int)) (EK T w r ((i : Int) + 1) ((k : Int) + 1 + 1) 0 (IntKind.i64.wrap (s + 1)) n₂ j0 j1 j2 j3 j4 j5 j6 j7 j8) ⟨k + 1, _, _, _, _, _, _, _, _, _, _, _, rfl, rfl, by omega, rfl, hans₂⟩ ⟨rfl, rfl, rfl, rfl, rfl, rfl, rfl, rfl, rfl, rfl, congrArg (fun z => some (V.a (.int .i64 z))) ek, trivial⟩ ⟨rfl, rfl, rfl, rfl, trivial⟩ rfl⟩
            · have hans' := hans
              clear hans
              conv => whnf
              repeat' (first
                | ((with_reducible refine regx_of ?_ ?_); (· decide +kernel); conv => whnf)
                | ((with_reducible refine growx_pre ?_ ?_); (· exact ⟨_, rfl⟩); conv => whnf)
                | ((with_reducible refine needm_of ?_ ?_); (· first | assumption | exact decide_eq_true (by omega) | decide +kernel | (refine decide_eq_true ?_; simp (disch := omega) only [i64w]; omega)); conv => whnf)
                | ((with_reducible refine condm_pos ?_ ?_); (· assumption); conv => whnf)
                | ((with_reducible refine condm_neg ?_ ?_); (· assumption); conv => whnf)
                | ((with_reducible refine forceL_fv (by assumption) ?_); conv => whnf)
                | ((with_reducible refine forceL_rfv (by assumption) ?_); conv => whnf)
                | ((with_reducible refine forceNm_of ?_); conv => whnf)
                | ((with_reducible refine needm_of (fv_lenL (by assumption) (by assumption)) ?_); conv => whnf)
                | ((with_reducible refine optm_var (fv_strL (by assumption) (by assumption)) (fun s hs => ?_)); conv => whnf)
                | ((with_reducible refine forceA_of ?_); conv => whnf)
                | fail)
              refine loopx_of (fun m F H => ∃ (t : Nat) (at_ go se2 n k0 k1 k2 k3 k4 k5 k6 : Int) (k7 : Bool) (k8 : ByteArray), F = E2 w r s (.rslc p len cap) i nn k t ∧ H = EK T w r ((i : Int) + 1) at_ go se2 n k0 k1 k2 k3 k4 k5 k6 k7 k8 ∧ 1 ≤ t ∧ (t : Int) ≤ w + 1 ∧ m = (w + 1 - t).toNat ∧ Ans i n k0 k1 k2 k3 k4 k5 k6 k7 k8 ∧
                  (((t : Int) ≤ w ∧ at_ = (k : Int) + 1 ∧ go = (t : Int) - 1 ∧ se2 = s) ∨ ((t : Int) = w + 1 ∧ at_ = (k : Int) + 1 + 1 ∧ go = 0 ∧ se2 = IntKind.i64.wrap (s + 1)))) w.toNat ?_ ?_
              · exact Into.weak [0, 1, 2, 3] (E2 w r s (.rslc p len cap) i nn k 1) (EK T w r ((i : Int) + 1) ((k : Int) + 1) 0 s _ _ _ _ _ _ _ _ _ _) ⟨1, _, _, _, _, _, _, _, _, _, _, _, _, _, rfl, rfl, Nat.le_refl _, by omega, by omega, hans', .inl ⟨by omega, rfl, by omega, rfl⟩⟩ ⟨rfl, rfl, rfl, rfl, rfl, rfl, rfl, rfl, rfl, rfl, rfl, rfl, trivial⟩ ⟨rfl, rfl, rfl, rfl, trivial⟩ rfl
              · clear hans'
                rintro m F H ⟨t, at_, go₂, se2, n₂, j0, j1, j2, j3, j4, j5, j6, j7, j8, rfl, rfl, ht1, htw, rfl, hans₂, hcase⟩
                have ew : IntKind.i64.wrap ((t : Int) - 1 + 1) = t := by rw [i64w (by omega) (by omega)]; omega
                have et : IntKind.i64.wrap ((t : Int) + 1) = ((t + 1 : Nat) : Int) := by rw [i64w (by omega) (by omega)]; rfl
                have ek : IntKind.i64.wrap ((k : Int) + 1) = ((k + 1 : Nat) : Int) := by rw [i64w (by omega) (by omega)]; rfl
                have ek2 : IntKind.i64.wrap ((k : Int) + 1 + 1) = (k : Int) + 1 + 1 := i64w (by omega) (by omega)
                have er : IntKind.i64.wrap (r - 1) = r - 1 := i64w (by omega) (by omega)
                rcases hcase with ⟨htle, rfl, rfl, rfl⟩ | ⟨hte, rfl, rfl, rfl⟩
                · have d4 : decide ((t : Int) ≤ w) = true := decide_eq_true htle
                  conv => whnf
                  repeat' (first
                    | ((with_reducible refine regx_of ?_ ?_); (· decide +kernel); conv => whnf)
                    | ((with_reducible refine growx_pre ?_ ?_); (· exact ⟨_, rfl⟩); conv => whnf)
                    | ((with_reducible refine needm_of ?_ ?_); (· first | assumption | exact decide_eq_true (by omega) | decide +kernel | (refine decide_eq_true ?_; simp (disch := omega) only [i64w]; omega)); conv => whnf)
                    | ((with_reducible refine condm_pos ?_ ?_); (· assumption); conv => whnf)
                    | ((with_reducible refine condm_neg ?_ ?_); (· assumption); conv => whnf)
                    | ((with_reducible refine forceL_fv (by assumption) ?_); conv => whnf)
                    | ((with_reducible refine forceL_rfv (by assumption) ?_); conv => whnf)
                    | ((with_reducible refine forceNm_of ?_); conv => whnf)
                    | ((with_reducible refine needm_of (fv_lenL (by assumption) (by assumption)) ?_); conv => whnf)
                    | ((with_reducible refine optm_var (fv_strL (by assumption) (by assumption)) (fun s hs => ?_)); conv => whnf)
                    | ((with_reducible refine forceA_of ?_); conv => whnf)
                    | fail)
                  refine Fn.frame [1] (by rfl) (by exact ⟨rfl, trivial⟩) (by rfl) (tick18 _ _ _ _ _ _ _ _ _ _ _ _ _ _ (fun h1 => absurd h1 (by decide)) (fun h1 h2 => absurd h2 (by omega)) (fun h1 h2 x' hx h3 => ?_) (fun h1 h2 x' hx h3 h4 => ?_) (fun h1 h2 x' hx h3 h4 y z hy hz2 => ?_))
                  · rw [ew] at hx
                    subst hx
                    have d5 : ((t : Int) == w) = false := by simp; omega
                    conv => whnf
                    repeat' (first
                      | ((with_reducible refine regx_of ?_ ?_); (· decide +kernel); conv => whnf)
                      | ((with_reducible refine growx_pre ?_ ?_); (· exact ⟨_, rfl⟩); conv => whnf)
                      | ((with_reducible refine needm_of ?_ ?_); (· first | assumption | exact decide_eq_true (by omega) | decide +kernel | (refine decide_eq_true ?_; simp (disch := omega) only [i64w]; omega)); conv => whnf)
                      | ((with_reducible refine condm_pos ?_ ?_); (· assumption); conv => whnf)
                      | ((with_reducible refine condm_neg ?_ ?_); (· assumption); conv => whnf)
                      | ((with_reducible refine forceL_fv (by assumption) ?_); conv => whnf)
                      | ((with_reducible refine forceL_rfv (by assumption) ?_); conv => whnf)
                      | ((with_reducible refine forceNm_of ?_); conv => whnf)
                      | ((with_reducible refine needm_of (fv_lenL (by assumption) (by assumption)) ?_); conv => whnf)
                      | ((with_reducible refine optm_var (fv_strL (by assumption) (by assumption)) (fun s hs => ?_)); conv => whnf)
                      | ((with_reducible refine forceA_of ?_); conv => whnf)
                      | ((with_reducible refine condm_pos ?_ ?_); (· simp [*]; done); conv => whnf)
                      | ((with_reducible refine condm_neg ?_ ?_); (· simp [*]; done); conv => whnf)
                      | ((with_reducible refine condm_of (fun h => ?_) (fun h => ?_)) <;> (conv => whnf))
                      | ((with_reducible refine And.intro ?_ ?_) <;> (conv => whnf))
                      | (refine ⟨_, EqAgg.of rfl, ?_⟩; conv => whnf)
                      | fail)
                    all_goals exact ⟨(w + 1 - ((t + 1 : Nat) : Int)).toNat, by omega, Into.weak [0, 1, 2, 3] (E2 w r se2 (.rslc p len cap) i nn k ((t + 1 : Nat) : Int)) (EK T w r ((i : Int) + 1) ((k : Int) + 1) (t : Int) se2 n₂ j0 j1 j2 j3 j4 j5 j6 j7 j8) ⟨t + 1, _, _, _, _, _, _, _, _, _, _, _, _, _, rfl, rfl, by omega, by omega, rfl, hans₂, .inl ⟨by omega, rfl, by omega, rfl⟩⟩ ⟨rfl, rfl, rfl, rfl, rfl, rfl, rfl, rfl, rfl, rfl, rfl, congrArg (fun z => some (V.a (.int .i64 z))) et, trivial⟩ ⟨rfl, rfl, rfl, rfl, trivial⟩ rfl⟩
                  · rw [ew] at hx
                    subst hx
                    have d5 : ((t : Int) == w) = true := by simp; omega
                    have d6 : ((k : Int) == IntKind.i64.wrap (r - 1)) = true := by rw [er]; simp; omega
                    conv => whnf
                    repeat' (first
                      | ((with_reducible refine regx_of ?_ ?_); (· decide +kernel); conv => whnf)
                      | ((with_reducible refine growx_pre ?_ ?_); (· exact ⟨_, rfl⟩); conv => whnf)
                      | ((with_reducible refine needm_of ?_ ?_); (· first | assumption | exact decide_eq_true (by omega) | decide +kernel | (refine decide_eq_true ?_; simp (disch := omega) only [i64w]; omega)); conv => whnf)
                      | ((with_reducible refine condm_pos ?_ ?_); (· assumption); conv => whnf)
                      | ((with_reducible refine condm_neg ?_ ?_); (· assumption); conv => whnf)
                      | ((with_reducible refine forceL_fv (by assumption) ?_); conv => whnf)
                      | ((with_reducible refine forceL_rfv (by assumption) ?_); conv => whnf)
                      | ((with_reducible refine forceNm_of ?_); conv => whnf)
                      | ((with_reducible refine needm_of (fv_lenL (by assumption) (by assumption)) ?_); conv => whnf)
                      | ((with_reducible refine optm_var (fv_strL (by assumption) (by assumption)) (fun s hs => ?_)); conv => whnf)
                      | ((with_reducible refine forceA_of ?_); conv => whnf)
                      | ((with_reducible refine condm_pos ?_ ?_); (· simp [*]; done); conv => whnf)
                      | ((with_reducible refine condm_neg ?_ ?_); (· simp [*]; done); conv => whnf)
                      | fail)
                    refine Fn.frame [1] (by rfl) (by exact ⟨rfl, trivial⟩) (by rfl) (waits22 _ _ _ _ _ _ _ _ _ _ _ _ _ _ (fun q hq => ?_))
                    obtain rfl : q = false := by rw [hq]; decide
                    conv => whnf
                    repeat' (first
                      | ((with_reducible refine regx_of ?_ ?_); (· decide +kernel); conv => whnf)
                      | ((with_reducible refine growx_pre ?_ ?_); (· exact ⟨_, rfl⟩); conv => whnf)
                      | ((with_reducible refine needm_of ?_ ?_); (· first | assumption | exact decide_eq_true (by omega) | decide +kernel | (refine decide_eq_true ?_; simp (disch := omega) only [i64w]; omega)); conv => whnf)
                      | ((with_reducible refine condm_pos ?_ ?_); (· assumption); conv => whnf)
                      | ((with_reducible refine condm_neg ?_ ?_); (· assumption); conv => whnf)
                      | ((with_reducible refine forceL_fv (by assumption) ?_); conv => whnf)
                      | ((with_reducible refine forceL_rfv (by assumption) ?_); conv => whnf)
                      | ((with_reducible refine forceNm_of ?_); conv => whnf)
                      | ((with_reducible refine needm_of (fv_lenL (by assumption) (by assumption)) ?_); conv => whnf)
                      | ((with_reducible refine optm_var (fv_strL (by assumption) (by assumption)) (fun s hs => ?_)); conv => whnf)
                      | ((with_reducible refine forceA_of ?_); conv => whnf)
                      | ((with_reducible refine condm_pos ?_ ?_); (· simp [*]; done); conv => whnf)
                      | ((with_reducible refine condm_neg ?_ ?_); (· simp [*]; done); conv => whnf)
                      | fail)
                    refine Fn.frame [1] (by rfl) (by exact ⟨rfl, trivial⟩) (by rfl) (ask16 _ _ _ _ _ _ _ _ _ _ _ _ _ _ _ (fun g1 => ?_) (fun g1 => absurd g1 (by decide)) (fun g1 => absurd g1 (by decide)) (fun g1 => absurd g1 (by decide)))
                    conv => whnf
                    repeat' (first
                      | ((with_reducible refine regx_of ?_ ?_); (· decide +kernel); conv => whnf)
                      | ((with_reducible refine growx_pre ?_ ?_); (· exact ⟨_, rfl⟩); conv => whnf)
                      | ((with_reducible refine needm_of ?_ ?_); (· first | assumption | exact decide_eq_true (by omega) | decide +kernel | (refine decide_eq_true ?_; simp (disch := omega) only [i64w]; omega)); conv => whnf)
                      | ((with_reducible refine condm_pos ?_ ?_); (· assumption); conv => whnf)
                      | ((with_reducible refine condm_neg ?_ ?_); (· assumption); conv => whnf)
                      | ((with_reducible refine forceL_fv (by assumption) ?_); conv => whnf)
                      | ((with_reducible refine forceL_rfv (by assumption) ?_); conv => whnf)
                      | ((with_reducible refine forceNm_of ?_); conv => whnf)
                      | ((with_reducible refine needm_of (fv_lenL (by assumption) (by assumption)) ?_); conv => whnf)
                      | ((with_reducible refine optm_var (fv_strL (by assumption) (by assumption)) (fun s hs => ?_)); conv => whnf)
                      | ((with_reducible refine forceA_of ?_); conv => whnf)
                      | ((with_reducible refine condm_pos ?_ ?_); (· simp [*]; done); conv => whnf)
                      | ((with_reducible refine condm_neg ?_ ?_); (· simp [*]; done); conv => whnf)
                      | fail)
                    refine Fn.frame [1] (by rfl) (by exact ⟨rfl, trivial⟩) (by rfl) (sent24 _ _ _ _ _ _ _ _ _ _ _ _ _ _ ?_)
                    conv => whnf
                    repeat' (first
                      | ((with_reducible refine regx_of ?_ ?_); (· decide +kernel); conv => whnf)
                      | ((with_reducible refine growx_pre ?_ ?_); (· exact ⟨_, rfl⟩); conv => whnf)
                      | ((with_reducible refine needm_of ?_ ?_); (· first | assumption | exact decide_eq_true (by omega) | decide +kernel | (refine decide_eq_true ?_; simp (disch := omega) only [i64w]; omega)); conv => whnf)
                      | ((with_reducible refine condm_pos ?_ ?_); (· assumption); conv => whnf)
                      | ((with_reducible refine condm_neg ?_ ?_); (· assumption); conv => whnf)
                      | ((with_reducible refine forceL_fv (by assumption) ?_); conv => whnf)
                      | ((with_reducible refine forceL_rfv (by assumption) ?_); conv => whnf)
                      | ((with_reducible refine forceNm_of ?_); conv => whnf)
                      | ((with_reducible refine needm_of (fv_lenL (by assumption) (by assumption)) ?_); conv => whnf)
                      | ((with_reducible refine optm_var (fv_strL (by assumption) (by assumption)) (fun s hs => ?_)); conv => whnf)
                      | ((with_reducible refine forceA_of ?_); conv => whnf)
                      | ((with_reducible refine condm_pos ?_ ?_); (· simp [*]; done); conv => whnf)
                      | ((with_reducible refine condm_neg ?_ ?_); (· simp [*]; done); conv => whnf)
                      | fail)
                    refine congrArg (fun b => V.a (A.bool b)) ?_
                    simp [*]
                  · rw [ew] at hx
                    subst hx
                    rw [ek2] at hy
                    subst hy
                    have d5 : ((t : Int) == w) = true := by simp; omega
                    have d6 : ((k : Int) == IntKind.i64.wrap (r - 1)) = false := by rw [er]; simp; omega
                    conv => whnf
                    repeat' (first
                      | ((with_reducible refine regx_of ?_ ?_); (· decide +kernel); conv => whnf)
                      | ((with_reducible refine growx_pre ?_ ?_); (· exact ⟨_, rfl⟩); conv => whnf)
                      | ((with_reducible refine needm_of ?_ ?_); (· first | assumption | exact decide_eq_true (by omega) | decide +kernel | (refine decide_eq_true ?_; simp (disch := omega) only [i64w]; omega)); conv => whnf)
                      | ((with_reducible refine condm_pos ?_ ?_); (· assumption); conv => whnf)
                      | ((with_reducible refine condm_neg ?_ ?_); (· assumption); conv => whnf)
                      | ((with_reducible refine forceL_fv (by assumption) ?_); conv => whnf)
                      | ((with_reducible refine forceL_rfv (by assumption) ?_); conv => whnf)
                      | ((with_reducible refine forceNm_of ?_); conv => whnf)
                      | ((with_reducible refine needm_of (fv_lenL (by assumption) (by assumption)) ?_); conv => whnf)
                      | ((with_reducible refine optm_var (fv_strL (by assumption) (by assumption)) (fun s hs => ?_)); conv => whnf)
                      | ((with_reducible refine forceA_of ?_); conv => whnf)
                      | ((with_reducible refine condm_pos ?_ ?_); (· simp [*]; done); conv => whnf)
                      | ((with_reducible refine condm_neg ?_ ?_); (· simp [*]; done); conv => whnf)
                      | ((with_reducible refine condm_of (fun h => ?_) (fun h => ?_)) <;> (conv => whnf))
                      | ((with_reducible refine And.intro ?_ ?_) <;> (conv => whnf))
                      | (refine ⟨_, EqAgg.of rfl, ?_⟩; conv => whnf)
                      | fail)
                    all_goals exact ⟨(w + 1 - ((t + 1 : Nat) : Int)).toNat, by omega, Into.weak [0, 1, 2, 3] (E2 w r se2 (.rslc p len cap) i nn k ((t + 1 : Nat) : Int)) (EK T w r ((i : Int) + 1) ((k : Int) + 1 + 1) 0 z n₂ j0 j1 j2 j3 j4 j5 j6 j7 j8) ⟨t + 1, _, _, _, _, _, _, _, _, _, _, _, _, _, rfl, rfl, by omega, by omega, rfl, hans₂, .inr ⟨by omega, rfl, rfl, hz2⟩⟩ ⟨rfl, rfl, rfl, rfl, rfl, rfl, rfl, rfl, rfl, rfl, rfl, congrArg (fun z => some (V.a (.int .i64 z))) et, trivial⟩ ⟨rfl, rfl, rfl, rfl, trivial⟩ rfl⟩
                · have d4 : decide ((t : Int) ≤ w) = false := decide_eq_false (by omega)
                  conv => whnf
                  repeat' (first
                    | ((with_reducible refine regx_of ?_ ?_); (· decide +kernel); conv => whnf)
                    | ((with_reducible refine growx_pre ?_ ?_); (· exact ⟨_, rfl⟩); conv => whnf)
                    | ((with_reducible refine needm_of ?_ ?_); (· first | assumption | exact decide_eq_true (by omega) | decide +kernel | (refine decide_eq_true ?_; simp (disch := omega) only [i64w]; omega)); conv => whnf)
                    | ((with_reducible refine condm_pos ?_ ?_); (· assumption); conv => whnf)
                    | ((with_reducible refine condm_neg ?_ ?_); (· assumption); conv => whnf)
                    | ((with_reducible refine forceL_fv (by assumption) ?_); conv => whnf)
                    | ((with_reducible refine forceL_rfv (by assumption) ?_); conv => whnf)
                    | ((with_reducible refine forceNm_of ?_); conv => whnf)
                    | ((with_reducible refine needm_of (fv_lenL (by assumption) (by assumption)) ?_); conv => whnf)
                    | ((with_reducible refine optm_var (fv_strL (by assumption) (by assumption)) (fun s hs => ?_)); conv => whnf)
                    | ((with_reducible refine forceA_of ?_); conv => whnf)
                    | fail)
                  exact ⟨(nn - ((k + 1 : Nat) : Int)).toNat, by omega, Into.weak [0, 1, 2, 3] (E1 w r (IntKind.i64.wrap (s + 1)) (.rslc p len cap) i nn ((k + 1 : Nat) : Int)) (EK T w r ((i : Int) + 1) ((k : Int) + 1 + 1) 0 (IntKind.i64.wrap (s + 1)) n₂ j0 j1 j2 j3 j4 j5 j6 j7 j8) ⟨k + 1, _, _, _, _, _, _, _, _, _, _, _, rfl, rfl, by omega, rfl, hans₂⟩ ⟨rfl, rfl, rfl, rfl, rfl, rfl, rfl, rfl, rfl, rfl, congrArg (fun z => some (V.a (.int .i64 z))) ek, trivial⟩ ⟨rfl, rfl, rfl, rfl, trivial⟩ rfl⟩
          · have d3 : decide ((k : Int) < nn) = false := decide_eq_false hk
            have ei : IntKind.i64.wrap ((i : Int) + 1) = ((i + 1 : Nat) : Int) := by rw [i64w (by omega) (by omega)]; rfl
            have htk : tkA 1 1 1 1 2 T ((i : Int) + 1) ((k : Int) + 1) 2 1 1 1 1 77 ((i : Int) + 1) true := ⟨by omega, rfl, by decide, rfl, fun h => (hT1 (by omega)).symm⟩
            conv => whnf
            repeat' (first
              | ((with_reducible refine regx_of ?_ ?_); (· decide +kernel); conv => whnf)
              | ((with_reducible refine growx_pre ?_ ?_); (· exact ⟨_, rfl⟩); conv => whnf)
              | ((with_reducible refine needm_of ?_ ?_); (· first | assumption | exact decide_eq_true (by omega) | decide +kernel | (refine decide_eq_true ?_; simp (disch := omega) only [i64w]; omega)); conv => whnf)
              | ((with_reducible refine condm_pos ?_ ?_); (· assumption); conv => whnf)
              | ((with_reducible refine condm_neg ?_ ?_); (· assumption); conv => whnf)
              | ((with_reducible refine forceL_fv (by assumption) ?_); conv => whnf)
              | ((with_reducible refine forceL_rfv (by assumption) ?_); conv => whnf)
              | ((with_reducible refine forceNm_of ?_); conv => whnf)
              | ((with_reducible refine needm_of (fv_lenL (by assumption) (by assumption)) ?_); conv => whnf)
              | ((with_reducible refine optm_var (fv_strL (by assumption) (by assumption)) (fun s hs => ?_)); conv => whnf)
              | ((with_reducible refine forceA_of ?_); conv => whnf)
              | ((with_reducible refine condm_pos ?_ ?_); (· first | decide | (simp; done)); conv => whnf)
              | ((with_reducible refine condm_neg ?_ ?_); (· first | decide | (simp; done)); conv => whnf)
              | fail)
            refine Fn.frame [2] (by rfl) (by exact ⟨rfl, trivial⟩) (by rfl) (ans_take hi3 hT0 hT1 hans (fun hn => ?_) (fun hn => ?_))
            · conv => whnf
              repeat' (first
                | ((with_reducible refine regx_of ?_ ?_); (· decide +kernel); conv => whnf)
                | ((with_reducible refine growx_pre ?_ ?_); (· exact ⟨_, rfl⟩); conv => whnf)
                | ((with_reducible refine needm_of ?_ ?_); (· first | assumption | exact decide_eq_true (by omega) | decide +kernel | (refine decide_eq_true ?_; simp (disch := omega) only [i64w]; omega)); conv => whnf)
                | ((with_reducible refine condm_pos ?_ ?_); (· assumption); conv => whnf)
                | ((with_reducible refine condm_neg ?_ ?_); (· assumption); conv => whnf)
                | ((with_reducible refine forceL_fv (by assumption) ?_); conv => whnf)
                | ((with_reducible refine forceL_rfv (by assumption) ?_); conv => whnf)
                | ((with_reducible refine forceNm_of ?_); conv => whnf)
                | ((with_reducible refine needm_of (fv_lenL (by assumption) (by assumption)) ?_); conv => whnf)
                | ((with_reducible refine optm_var (fv_strL (by assumption) (by assumption)) (fun s hs => ?_)); conv => whnf)
                | ((with_reducible refine forceA_of ?_); conv => whnf)
                | ((with_reducible refine condm_pos ?_ ?_); (· first | decide | (simp; done)); conv => whnf)
                | ((with_reducible refine condm_neg ?_ ?_); (· first | decide | (simp; done)); conv => whnf)
                | fail)
              refine Fn.frame [1] (by rfl) (by exact ⟨rfl, trivial⟩) (by rfl) (take20 _ _ _ _ _ _ _ _ _ _ _ _ _ _ _ _ _ _ _ _ _ _ _ (fun h => absurd htk h) (fun h => ?_))
              conv => whnf
              repeat' (first
                | ((with_reducible refine regx_of ?_ ?_); (· decide +kernel); conv => whnf)
                | ((with_reducible refine growx_pre ?_ ?_); (· exact ⟨_, rfl⟩); conv => whnf)
                | ((with_reducible refine needm_of ?_ ?_); (· first | assumption | exact decide_eq_true (by omega) | decide +kernel | (refine decide_eq_true ?_; simp (disch := omega) only [i64w]; omega)); conv => whnf)
                | ((with_reducible refine condm_pos ?_ ?_); (· assumption); conv => whnf)
                | ((with_reducible refine condm_neg ?_ ?_); (· assumption); conv => whnf)
                | ((with_reducible refine forceL_fv (by assumption) ?_); conv => whnf)
                | ((with_reducible refine forceL_rfv (by assumption) ?_); conv => whnf)
                | ((with_reducible refine forceNm_of ?_); conv => whnf)
                | ((with_reducible refine needm_of (fv_lenL (by assumption) (by assumption)) ?_); conv => whnf)
                | ((with_reducible refine optm_var (fv_strL (by assumption) (by assumption)) (fun s hs => ?_)); conv => whnf)
                | ((with_reducible refine forceA_of ?_); conv => whnf)
                | ((with_reducible refine condm_pos ?_ ?_); (· first | decide | (simp; done)); conv => whnf)
                | ((with_reducible refine condm_neg ?_ ?_); (· first | decide | (simp; done)); conv => whnf)
                | fail)
              refine Fn.frame [1] (by rfl) (by exact ⟨rfl, trivial⟩) (by rfl) (sent24 _ _ _ _ _ _ _ _ _ _ _ _ _ _ ?_)
              conv => whnf
              repeat' (first
                | ((with_reducible refine regx_of ?_ ?_); (· decide +kernel); conv => whnf)
                | ((with_reducible refine growx_pre ?_ ?_); (· exact ⟨_, rfl⟩); conv => whnf)
                | ((with_reducible refine needm_of ?_ ?_); (· first | assumption | exact decide_eq_true (by omega) | decide +kernel | (refine decide_eq_true ?_; simp (disch := omega) only [i64w]; omega)); conv => whnf)
                | ((with_reducible refine condm_pos ?_ ?_); (· assumption); conv => whnf)
                | ((with_reducible refine condm_neg ?_ ?_); (· assumption); conv => whnf)
                | ((with_reducible refine forceL_fv (by assumption) ?_); conv => whnf)
                | ((with_reducible refine forceL_rfv (by assumption) ?_); conv => whnf)
                | ((with_reducible refine forceNm_of ?_); conv => whnf)
                | ((with_reducible refine needm_of (fv_lenL (by assumption) (by assumption)) ?_); conv => whnf)
                | ((with_reducible refine optm_var (fv_strL (by assumption) (by assumption)) (fun s hs => ?_)); conv => whnf)
                | ((with_reducible refine forceA_of ?_); conv => whnf)
                | ((with_reducible refine condm_pos ?_ ?_); (· first | decide | (simp; done)); conv => whnf)
                | ((with_reducible refine condm_neg ?_ ?_); (· first | decide | (simp; done)); conv => whnf)
                | fail)
              refine Fn.frame [1] (by rfl) (by exact ⟨rfl, trivial⟩) (by rfl) (waits22 _ _ _ _ _ _ _ _ _ _ _ _ _ _ (fun q hq => ?_))
              obtain rfl : q = false := by rw [hq]; decide
              conv => whnf
              repeat' (first
                | ((with_reducible refine regx_of ?_ ?_); (· decide +kernel); conv => whnf)
                | ((with_reducible refine growx_pre ?_ ?_); (· exact ⟨_, rfl⟩); conv => whnf)
                | ((with_reducible refine needm_of ?_ ?_); (· first | assumption | exact decide_eq_true (by omega) | decide +kernel | (refine decide_eq_true ?_; simp (disch := omega) only [i64w]; omega)); conv => whnf)
                | ((with_reducible refine condm_pos ?_ ?_); (· assumption); conv => whnf)
                | ((with_reducible refine condm_neg ?_ ?_); (· assumption); conv => whnf)
                | ((with_reducible refine forceL_fv (by assumption) ?_); conv => whnf)
                | ((with_reducible refine forceL_rfv (by assumption) ?_); conv => whnf)
                | ((with_reducible refine forceNm_of ?_); conv => whnf)
                | ((with_reducible refine needm_of (fv_lenL (by assumption) (by assumption)) ?_); conv => whnf)
                | ((with_reducible refine optm_var (fv_strL (by assumption) (by assumption)) (fun s hs => ?_)); conv => whnf)
                | ((with_reducible refine forceA_of ?_); conv => whnf)
                | ((with_reducible refine condm_pos ?_ ?_); (· first | decide | (simp; done)); conv => whnf)
                | ((with_reducible refine condm_neg ?_ ?_); (· first | decide | (simp; done)); conv => whnf)
                | fail)
              exact ⟨len - (i + 1), by omega, Into.weak [0, 1, 2] (E0 w r s (.rslc p len cap) ((i + 1 : Nat) : Int)) (EH 77 w r ((i : Int) + 1) bq 0 0 s ((i : Int) + 1) 2 1 1 1 1 77 ((i : Int) + 1) true br) ⟨i + 1, _, _, _, _, _, _, _, _, _, _, _, _, _, rfl, rfl, by omega, by omega, rfl, fun h => absurd h (by omega), fun _ => rfl⟩ ⟨rfl, rfl, rfl, rfl, rfl, rfl, rfl, congrArg (fun z => some (V.a (.int .i64 z))) ei, trivial⟩ ⟨rfl, rfl, rfl, trivial⟩ rfl⟩
            · conv => whnf
              repeat' (first
                | ((with_reducible refine regx_of ?_ ?_); (· decide +kernel); conv => whnf)
                | ((with_reducible refine growx_pre ?_ ?_); (· exact ⟨_, rfl⟩); conv => whnf)
                | ((with_reducible refine needm_of ?_ ?_); (· first | assumption | exact decide_eq_true (by omega) | decide +kernel | (refine decide_eq_true ?_; simp (disch := omega) only [i64w]; omega)); conv => whnf)
                | ((with_reducible refine condm_pos ?_ ?_); (· assumption); conv => whnf)
                | ((with_reducible refine condm_neg ?_ ?_); (· assumption); conv => whnf)
                | ((with_reducible refine forceL_fv (by assumption) ?_); conv => whnf)
                | ((with_reducible refine forceL_rfv (by assumption) ?_); conv => whnf)
                | ((with_reducible refine forceNm_of ?_); conv => whnf)
                | ((with_reducible refine needm_of (fv_lenL (by assumption) (by assumption)) ?_); conv => whnf)
                | ((with_reducible refine optm_var (fv_strL (by assumption) (by assumption)) (fun s hs => ?_)); conv => whnf)
                | ((with_reducible refine forceA_of ?_); conv => whnf)
                | ((with_reducible refine condm_pos ?_ ?_); (· first | decide | (simp; done)); conv => whnf)
                | ((with_reducible refine condm_neg ?_ ?_); (· first | decide | (simp; done)); conv => whnf)
                | fail)
              refine Fn.frame [2] (by rfl) (by exact ⟨rfl, trivial⟩) (by rfl) (reply11 _ _ _ _ _ _ _ _ _ _ _ _ _ _ _ _ _ _ (fun h => absurd h (by decide)) (fun h => ?_))
              conv => whnf
              repeat' (first
                | ((with_reducible refine regx_of ?_ ?_); (· decide +kernel); conv => whnf)
                | ((with_reducible refine growx_pre ?_ ?_); (· exact ⟨_, rfl⟩); conv => whnf)
                | ((with_reducible refine needm_of ?_ ?_); (· first | assumption | exact decide_eq_true (by omega) | decide +kernel | (refine decide_eq_true ?_; simp (disch := omega) only [i64w]; omega)); conv => whnf)
                | ((with_reducible refine condm_pos ?_ ?_); (· assumption); conv => whnf)
                | ((with_reducible refine condm_neg ?_ ?_); (· assumption); conv => whnf)
                | ((with_reducible refine forceL_fv (by assumption) ?_); conv => whnf)
                | ((with_reducible refine forceL_rfv (by assumption) ?_); conv => whnf)
                | ((with_reducible refine forceNm_of ?_); conv => whnf)
                | ((with_reducible refine needm_of (fv_lenL (by assumption) (by assumption)) ?_); conv => whnf)
                | ((with_reducible refine optm_var (fv_strL (by assumption) (by assumption)) (fun s hs => ?_)); conv => whnf)
                | ((with_reducible refine forceA_of ?_); conv => whnf)
                | ((with_reducible refine condm_pos ?_ ?_); (· first | decide | (simp; done)); conv => whnf)
                | ((with_reducible refine condm_neg ?_ ?_); (· first | decide | (simp; done)); conv => whnf)
                | fail)
              refine Fn.frame [1] (by rfl) (by exact ⟨rfl, trivial⟩) (by rfl) (take20 _ _ _ _ _ _ _ _ _ _ _ _ _ _ _ _ _ _ _ _ _ _ _ (fun h => absurd htk h) (fun h => ?_))
              conv => whnf
              repeat' (first
                | ((with_reducible refine regx_of ?_ ?_); (· decide +kernel); conv => whnf)
                | ((with_reducible refine growx_pre ?_ ?_); (· exact ⟨_, rfl⟩); conv => whnf)
                | ((with_reducible refine needm_of ?_ ?_); (· first | assumption | exact decide_eq_true (by omega) | decide +kernel | (refine decide_eq_true ?_; simp (disch := omega) only [i64w]; omega)); conv => whnf)
                | ((with_reducible refine condm_pos ?_ ?_); (· assumption); conv => whnf)
                | ((with_reducible refine condm_neg ?_ ?_); (· assumption); conv => whnf)
                | ((with_reducible refine forceL_fv (by assumption) ?_); conv => whnf)
                | ((with_reducible refine forceL_rfv (by assumption) ?_); conv => whnf)
                | ((with_reducible refine forceNm_of ?_); conv => whnf)
                | ((with_reducible refine needm_of (fv_lenL (by assumption) (by assumption)) ?_); conv => whnf)
                | ((with_reducible refine optm_var (fv_strL (by assumption) (by assumption)) (fun s hs => ?_)); conv => whnf)
                | ((with_reducible refine forceA_of ?_); conv => whnf)
                | ((with_reducible refine condm_pos ?_ ?_); (· first | decide | (simp; done)); conv => whnf)
                | ((with_reducible refine condm_neg ?_ ?_); (· first | decide | (simp; done)); conv => whnf)
                | fail)
              refine Fn.frame [1] (by rfl) (by exact ⟨rfl, trivial⟩) (by rfl) (sent24 _ _ _ _ _ _ _ _ _ _ _ _ _ _ ?_)
              conv => whnf
              repeat' (first
                | ((with_reducible refine regx_of ?_ ?_); (· decide +kernel); conv => whnf)
                | ((with_reducible refine growx_pre ?_ ?_); (· exact ⟨_, rfl⟩); conv => whnf)
                | ((with_reducible refine needm_of ?_ ?_); (· first | assumption | exact decide_eq_true (by omega) | decide +kernel | (refine decide_eq_true ?_; simp (disch := omega) only [i64w]; omega)); conv => whnf)
                | ((with_reducible refine condm_pos ?_ ?_); (· assumption); conv => whnf)
                | ((with_reducible refine condm_neg ?_ ?_); (· assumption); conv => whnf)
                | ((with_reducible refine forceL_fv (by assumption) ?_); conv => whnf)
                | ((with_reducible refine forceL_rfv (by assumption) ?_); conv => whnf)
                | ((with_reducible refine forceNm_of ?_); conv => whnf)
                | ((with_reducible refine needm_of (fv_lenL (by assumption) (by assumption)) ?_); conv => whnf)
                | ((with_reducible refine optm_var (fv_strL (by assumption) (by assumption)) (fun s hs => ?_)); conv => whnf)
                | ((with_reducible refine forceA_of ?_); conv => whnf)
                | ((with_reducible refine condm_pos ?_ ?_); (· first | decide | (simp; done)); conv => whnf)
                | ((with_reducible refine condm_neg ?_ ?_); (· first | decide | (simp; done)); conv => whnf)
                | fail)
              refine Fn.frame [1] (by rfl) (by exact ⟨rfl, trivial⟩) (by rfl) (waits22 _ _ _ _ _ _ _ _ _ _ _ _ _ _ (fun q hq => ?_))
              obtain rfl : q = false := by rw [hq]; decide
              conv => whnf
              repeat' (first
                | ((with_reducible refine regx_of ?_ ?_); (· decide +kernel); conv => whnf)
                | ((with_reducible refine growx_pre ?_ ?_); (· exact ⟨_, rfl⟩); conv => whnf)
                | ((with_reducible refine needm_of ?_ ?_); (· first | assumption | exact decide_eq_true (by omega) | decide +kernel | (refine decide_eq_true ?_; simp (disch := omega) only [i64w]; omega)); conv => whnf)
                | ((with_reducible refine condm_pos ?_ ?_); (· assumption); conv => whnf)
                | ((with_reducible refine condm_neg ?_ ?_); (· assumption); conv => whnf)
                | ((with_reducible refine forceL_fv (by assumption) ?_); conv => whnf)
                | ((with_reducible refine forceL_rfv (by assumption) ?_); conv => whnf)
                | ((with_reducible refine forceNm_of ?_); conv => whnf)
                | ((with_reducible refine needm_of (fv_lenL (by assumption) (by assumption)) ?_); conv => whnf)
                | ((with_reducible refine optm_var (fv_strL (by assumption) (by assumption)) (fun s hs => ?_)); conv => whnf)
                | ((with_reducible refine forceA_of ?_); conv => whnf)
                | ((with_reducible refine condm_pos ?_ ?_); (· first | decide | (simp; done)); conv => whnf)
                | ((with_reducible refine condm_neg ?_ ?_); (· first | decide | (simp; done)); conv => whnf)
                | fail)
              exact ⟨len - (i + 1), by omega, Into.weak [0, 1, 2] (E0 w r s (.rslc p len cap) ((i + 1 : Nat) : Int)) (EH 77 w r ((i : Int) + 1) bq 0 0 s ((i : Int) + 1) 2 1 1 1 1 77 ((i : Int) + 1) true br) ⟨i + 1, _, _, _, _, _, _, _, _, _, _, _, _, _, rfl, rfl, by omega, by omega, rfl, fun h => absurd h (by omega), fun _ => rfl⟩ ⟨rfl, rfl, rfl, rfl, rfl, rfl, rfl, congrArg (fun z => some (V.a (.int .i64 z))) ei, trivial⟩ ⟨rfl, rfl, rfl, trivial⟩ rfl⟩
      · have d2 : decide ((i : Int) < 300) = false := decide_eq_false (by omega)
        conv => whnf
        repeat' (first
          | ((with_reducible refine regx_of ?_ ?_); (· decide +kernel); conv => whnf)
          | ((with_reducible refine growx_pre ?_ ?_); (· exact ⟨_, rfl⟩); conv => whnf)
          | ((with_reducible refine needm_of ?_ ?_); (· first | assumption | exact decide_eq_true (by omega) | decide +kernel | (refine decide_eq_true ?_; simp (disch := omega) only [i64w]; omega)); conv => whnf)
          | ((with_reducible refine condm_pos ?_ ?_); (· assumption); conv => whnf)
          | ((with_reducible refine condm_neg ?_ ?_); (· assumption); conv => whnf)
          | ((with_reducible refine forceL_fv (by assumption) ?_); conv => whnf)
          | ((with_reducible refine forceL_rfv (by assumption) ?_); conv => whnf)
          | ((with_reducible refine forceNm_of ?_); conv => whnf)
          | ((with_reducible refine needm_of (fv_lenL (by assumption) (by assumption)) ?_); conv => whnf)
          | ((with_reducible refine optm_var (fv_strL (by assumption) (by assumption)) (fun s hs => ?_)); conv => whnf)
          | ((with_reducible refine forceA_of ?_); conv => whnf)
          | fail)
    · have d1 : decide ((i : Int) < (len : Int)) = false := decide_eq_false (by omega)
      conv => whnf
      repeat' (first
        | ((with_reducible refine regx_of ?_ ?_); (· decide +kernel); conv => whnf)
        | ((with_reducible refine growx_pre ?_ ?_); (· exact ⟨_, rfl⟩); conv => whnf)
        | ((with_reducible refine needm_of ?_ ?_); (· first | assumption | exact decide_eq_true (by omega) | decide +kernel | (refine decide_eq_true ?_; simp (disch := omega) only [i64w]; omega)); conv => whnf)
        | ((with_reducible refine condm_pos ?_ ?_); (· assumption); conv => whnf)
        | ((with_reducible refine condm_neg ?_ ?_); (· assumption); conv => whnf)
        | ((with_reducible refine forceL_fv (by assumption) ?_); conv => whnf)
        | ((with_reducible refine forceL_rfv (by assumption) ?_); conv => whnf)
        | ((with_reducible refine forceNm_of ?_); conv => whnf)
        | ((with_reducible refine needm_of (fv_lenL (by assumption) (by assumption)) ?_); conv => whnf)
        | ((with_reducible refine optm_var (fv_strL (by assumption) (by assumption)) (fun s hs => ?_)); conv => whnf)
        | ((with_reducible refine forceA_of ?_); conv => whnf)
        | fail)
end Go.Proofs.Ytefimkcfaoabpaa.TA
