import Derived.Test.YtglbldhineggaaaDT
import Derived.Test.YtglbldhineggaaaDF
namespace Go.Proofs.Ytglbldhineggaaa.DG
open Go.Eng
set_option maxRecDepth 100000
@[irreducible] def hx (n : Nat) : UInt8 := if n < 10 then UInt8.ofNat (48 + n) else UInt8.ofNat (87 + n)
@[irreducible] def hexS (l : List UInt8) : List UInt8 := l.flatMap fun c => [hx (c.toNat / 16), hx (c.toNat % 16)]
theorem hexS_nil : hexS [] = [] := by simp [hexS]
theorem hexS_append (l m : List UInt8) : hexS (l ++ m) = hexS l ++ hexS m := by simp [hexS]
theorem hexS_length (l : List UInt8) : (hexS l).length = 2 * l.length := by
  induction l with
  | nil => simp [hexS]
  | cons c l ih => rw [show c :: l = [c] ++ l from rfl, hexS_append, List.length_append, ih]; simp [hexS]; omega
theorem hexS_succ {l : List UInt8} {i : Nat} (h : i < l.length) : hexS (l.take i) ++ [hx (l[i].toNat / 16), hx (l[i].toNat % 16)] = hexS (l.take (i + 1)) := by
  rw [List.take_add_one, List.getElem?_eq_getElem h, hexS_append]
  simp [hexS]
def digs : ByteArray := { data := #[48, 49, 50, 51, 52, 53, 54, 55, 56, 57, 97, 98, 99, 100, 101, 102] }
theorem digs_get (n : Nat) (h : n < 16) : byteAt { data := #[48, 49, 50, 51, 52, 53, 54, 55, 56, 57, 97, 98, 99, 100, 101, 102] } (n : Int) = some (hx n) := by
  have : ∀ k : Fin 16, byteAt { data := #[48, 49, 50, 51, 52, 53, 54, 55, 56, 57, 97, 98, 99, 100, 101, 102] } (k.val : Int) = some (hx k.val) := by decide +kernel
  exact this ⟨n, h⟩
theorem and15 (a : Nat) (h : a < 256) : bitx .and .u8 (a : Int) 15 = ((a % 16 : Nat) : Int) := by
  have : ∀ k : Fin 256, bitx .and .u8 (k.val : Int) 15 = ((k.val % 16 : Nat) : Int) := by decide +kernel
  exact this ⟨a, h⟩
theorem shr4 (a : Nat) : (a : Int).fdiv (2 ^ min (4 : Int).toNat IntKind.u8.bits) = ((a / 16 : Nat) : Int) := by
  rw [show (2 : Int) ^ min (4 : Int).toNat IntKind.u8.bits = ((16 : Nat) : Int) by decide, fdivN]
theorem quo16 (a : Nat) (h : a < 256) : IntKind.u8.wrap ((a : Int).tdiv 16) = ((a / 16 : Nat) : Int) := by
  rw [show (16 : Int) = ((16 : Nat) : Int) from rfl, tdivN]
  simp only [IntKind.wrap, IntKind.signed, IntKind.bits]
  simp
  omega
theorem app_nil2 {v w : Int} {S k : Nat} {z : A} (hS : S = 1) (hz : z = .int .u8 0) {b c : UInt8} (hv : v = b.toNat) (hw : w = c.toNat) :
    List.drop 0 (List.take (0 + 2 * S) [A.int .u8 v, .int .u8 w]) ++ repl [z] ((k - (1 + 1)) * S) = u8s ([b, c] ++ List.replicate (k - 2) 0) := by
  subst hS hz hv hw
  simp [repl_u8]
theorem byteAt_nat (s : ByteArray) (i : Nat) (h : i < s.data.toList.length) : s[((i : Nat) : Int).toNat]? = some s.data.toList[i] := by
  have h' : i < s.size := by simpa using h
  rw [Int.toNat_natCast, getElem?_pos s i h']
  rfl
section
variable {ro : Addr → A → Prop}
set_option maxHeartbeats 0 in
theorem hex17 (s : ByteArray) (l : List UInt8) (hl : l = s.data.toList) (hs : l.length ≤ 140737488351232) {K : V → Hp → Prop} (hk : ∀ r : List UInt8, r = hexS l → K (.a (.str ⟨r.toArray⟩)) []) :
    Go.Eng.Fn Try.prog ro 17 [.a (.str s)] [] K := by
  have hsz : s.size = l.length := by rw [hl, Array.length_toList]; rfl
  refine Go.Eng.Fn.weak ?_
  refine Go.Eng.Fn.of 0 h17 rfl Try.func17 rfl (Nat.le_of_ble_eq_true rfl) ?_
  have e1 : IntKind.i64.wrap (2 * (s.size : Int)) = ((2 * l.length : Nat) : Int) := by rw [hsz, i64w (by omega) (by omega)]; omega
  conv => whnf
  rw [e1]
  generalize hN : 2 * l.length = N at *
  refine needm_of (decide_eq_true ⟨by omega, by omega, by omega, by show (1 : Int) * _ ≤ _; omega⟩) ?_
  conv => whnf
  intro cap₂ hcap₂
  conv => whnf
  refine loopx_of (fun m F H => ∃ (i : Nat) (x : List UInt8) (cs cs₂ : List A) (z : List UInt8), i ≤ l.length ∧ m = l.length - i ∧ cs = u8s (hexS (l.take i) ++ x) ∧ x.length + 2 * i = N ∧ cs₂ = u8s (l ++ z) ∧
    F = [(3, .a (.slc 0 0 (2 * i) N)), (11, .a (.slc 1 0 s.size cap₂)), (12, .a (.int .i64 s.size)), (13, .a (.int .i64 i))] ∧ H = [.cells cs 5 false, .cells cs₂ 5 true]) l.length ?_ ?_
  · refine Into.weak [0, 1] _ _ ⟨0, List.replicate N 0, _, _, List.replicate (cap₂ - s.size) 0, by omega, rfl, rfl, by simp, rfl, rfl, rfl⟩ ⟨rfl, rfl, rfl, rfl, trivial⟩ ⟨?_, ?_, trivial⟩ ?_
    · refine (congrArg (fun l => some (Ob.cells l 5 false)) (?_ : repl [A.int .u8 0] (N * Try.prog.types[5].size) = u8s (hexS (l.take 0) ++ List.replicate N 0))).trans (ren_fv rfl _ _ _)
      rw [repl_u8, s5, Nat.mul_one, List.take_zero, hexS_nil, List.nil_append]
    · refine (congrArg (fun l => some (Ob.cells l 5 true)) (?_ : u8s s.data.toList ++ List.replicate (cap₂ - s.size) (A.int .u8 0) = u8s (l ++ List.replicate (cap₂ - s.size) 0))).trans (ren_fv rfl _ _ _)
      rw [u8s_append, repl_u8', hl]
    · simp [nodupb, baseb, Ob.okb, frmOk, V.okb, A.okb] <;> decide
  · rintro m F H ⟨i, x, cs, cs₂, z, hi, rfl, hcs, hx, hcs₂, rfl, rfl⟩
    conv => whnf
    refine condm_of (fun h => ?_) (fun h => ?_)
    · have hil : i < l.length := by have := of_decide_eq_true h; omega
      have e4 : IntKind.i64.wrap (↑i + 1) = ((i + 1 : Nat) : Int) := by rw [i64w (by omega) (by omega)]; rfl
      have hg : cs₂[0 + (↑i : Int).toNat * Try.prog.types[5].size]? = some (.int .u8 (l[i].toNat : Int)) := by
        rw [s5, Int.toNat_natCast, Nat.mul_one, Nat.zero_add, fv_get hcs₂ (by simp; omega), List.getElem_append_left hil]
      have hsc := hexS_succ hil
      have ha := l[i].toNat_lt
      conv => whnf
      repeat' (first
        | ((with_reducible refine regx_of ?_ ?_); (· decide +kernel); conv => whnf)
        | ((with_reducible refine growx_pre ?_ ?_); (· exact ⟨_, rfl⟩); conv => whnf)
        | ((with_reducible refine needm_of ?_ ?_); (· first | assumption | exact decide_eq_true (by omega) | decide +kernel | (refine decide_eq_true ?_; simp (disch := omega) only [i64w]; omega)); conv => whnf)
        | ((with_reducible refine condm_pos ?_ ?_); (· assumption); conv => whnf)
        | ((with_reducible refine condm_neg ?_ ?_); (· assumption); conv => whnf)
        | ((with_reducible refine forceL_fv (by assumption) ?_); conv => whnf)
        | ((with_reducible refine forceL_rfv (by assumption) ?_); conv => whnf)
        | ((with_reducible refine forceNm_of ?_); conv => whnf)
        | ((with_reducible refine needm_of (fv_lenL (by assumption) (by assumption)) ?_); conv => whnf)
        | ((with_reducible refine optm_var (fv_strL (by assumption) (by assumption)) (fun s hs => ?_)); conv => whnf)
        | ((with_reducible refine forceA_of ?_); conv => whnf)
        | fail)
      refine optm_of hg ?_
      generalize l[i].toNat = a at *
      have d1 : byteAt { data := #[48, 49, 50, 51, 52, 53, 54, 55, 56, 57, 97, 98, 99, 100, 101, 102] } ((a : Int).fdiv (2 ^ min (4 : Int).toNat IntKind.u8.bits)) = some (DG.hx (a / 16)) := by
        rw [shr4]; exact digs_get _ (by omega)
      have d2 : byteAt { data := #[48, 49, 50, 51, 52, 53, 54, 55, 56, 57, 97, 98, 99, 100, 101, 102] } (bitx .and .u8 (a : Int) 15) = some (DG.hx (a % 16)) := by
        rw [and15 a (by omega)]; exact digs_get _ (by omega)
      generalize DG.hx (a / 16) = b1 at *
      generalize DG.hx (a % 16) = b2 at *
      conv => whnf
      repeat' (first
        | ((with_reducible refine regx_of ?_ ?_); (· decide +kernel); conv => whnf)
        | ((with_reducible refine growx_pre ?_ ?_); (· exact ⟨_, rfl⟩); conv => whnf)
        | ((with_reducible refine needm_of ?_ ?_); (· first | assumption | exact decide_eq_true (by omega) | decide +kernel | (refine decide_eq_true ?_; simp (disch := omega) only [i64w]; omega)); conv => whnf)
        | ((with_reducible refine condm_pos ?_ ?_); (· assumption); conv => whnf)
        | ((with_reducible refine condm_neg ?_ ?_); (· assumption); conv => whnf)
        | ((with_reducible refine forceL_fv (by assumption) ?_); conv => whnf)
        | ((with_reducible refine forceL_rfv (by assumption) ?_); conv => whnf)
        | ((with_reducible refine forceNm_of ?_); conv => whnf)
        | ((with_reducible refine needm_of (fv_lenL (by assumption) (by assumption)) ?_); conv => whnf)
        | ((with_reducible refine optm_var (fv_strL (by assumption) (by assumption)) (fun s hs => ?_)); conv => whnf)
        | ((with_reducible refine forceA_of ?_); conv => whnf)
        | fail)
      refine optm_of d1 ?_
      conv => whnf
      repeat' (first
        | ((with_reducible refine regx_of ?_ ?_); (· decide +kernel); conv => whnf)
        | ((with_reducible refine growx_pre ?_ ?_); (· exact ⟨_, rfl⟩); conv => whnf)
        | ((with_reducible refine needm_of ?_ ?_); (· first | assumption | exact decide_eq_true (by omega) | decide +kernel | (refine decide_eq_true ?_; simp (disch := omega) only [i64w]; omega)); conv => whnf)
        | ((with_reducible refine condm_pos ?_ ?_); (· assumption); conv => whnf)
        | ((with_reducible refine condm_neg ?_ ?_); (· assumption); conv => whnf)
        | ((with_reducible refine forceL_fv (by assumption) ?_); conv => whnf)
        | ((with_reducible refine forceL_rfv (by assumption) ?_); conv => whnf)
        | ((with_reducible refine forceNm_of ?_); conv => whnf)
        | ((with_reducible refine needm_of (fv_lenL (by assumption) (by assumption)) ?_); conv => whnf)
        | ((with_reducible refine optm_var (fv_strL (by assumption) (by assumption)) (fun s hs => ?_)); conv => whnf)
        | ((with_reducible refine forceA_of ?_); conv => whnf)
        | fail)
      refine optm_of d2 ?_
      conv => whnf
      repeat' (first
        | ((with_reducible refine regx_of ?_ ?_); (· decide +kernel); conv => whnf)
        | ((with_reducible refine growx_pre ?_ ?_); (· exact ⟨_, rfl⟩); conv => whnf)
        | ((with_reducible refine needm_of ?_ ?_); (· first | assumption | exact decide_eq_true (by omega) | decide +kernel | (refine decide_eq_true ?_; simp (disch := omega) only [i64w]; omega)); conv => whnf)
        | ((with_reducible refine condm_pos ?_ ?_); (· assumption); conv => whnf)
        | ((with_reducible refine condm_neg ?_ ?_); (· assumption); conv => whnf)
        | ((with_reducible refine forceL_fv (by assumption) ?_); conv => whnf)
        | ((with_reducible refine forceL_rfv (by assumption) ?_); conv => whnf)
        | ((with_reducible refine forceNm_of ?_); conv => whnf)
        | ((with_reducible refine needm_of (fv_lenL (by assumption) (by assumption)) ?_); conv => whnf)
        | ((with_reducible refine optm_var (fv_strL (by assumption) (by assumption)) (fun s hs => ?_)); conv => whnf)
        | ((with_reducible refine forceA_of ?_); conv => whnf)
        | fail)
      refine condm_pos (decide_eq_true (by omega)) ?_
      conv => whnf
      refine needm_of (decide_eq_true (by rw [s5, fv_len hcs, List.length_append, hexS_length, List.length_take]; simp only [List.length_drop, List.length_take, List.length_cons, List.length_nil]; omega)) ?_
      conv => whnf
      refine forceL_var (app_in2 hcs (by rw [hexS_length, List.length_take]; omega) s5 (by rw [List.length_append, hexS_length, List.length_take]; omega) (b := b1) (c := b2) rfl rfl) (fun cs' hcs' => ?_)
      rw [hsc] at hcs'
      conv => whnf
      repeat' (first
        | ((with_reducible refine regx_of ?_ ?_); (· decide +kernel); conv => whnf)
        | ((with_reducible refine growx_pre ?_ ?_); (· exact ⟨_, rfl⟩); conv => whnf)
        | ((with_reducible refine needm_of ?_ ?_); (· first | assumption | exact decide_eq_true (by omega) | decide +kernel | (refine decide_eq_true ?_; simp (disch := omega) only [i64w]; omega)); conv => whnf)
        | ((with_reducible refine condm_pos ?_ ?_); (· assumption); conv => whnf)
        | ((with_reducible refine condm_neg ?_ ?_); (· assumption); conv => whnf)
        | ((with_reducible refine forceL_fv (by assumption) ?_); conv => whnf)
        | ((with_reducible refine forceL_rfv (by assumption) ?_); conv => whnf)
        | ((with_reducible refine forceNm_of ?_); conv => whnf)
        | ((with_reducible refine needm_of (fv_lenL (by assumption) (by assumption)) ?_); conv => whnf)
        | ((with_reducible refine optm_var (fv_strL (by assumption) (by assumption)) (fun s hs => ?_)); conv => whnf)
        | ((with_reducible refine forceA_of ?_); conv => whnf)
        | fail)
      refine ⟨l.length - (i + 1), by omega, Into.weak [0, 1] _ _ ⟨i + 1, x.drop 2, cs', cs₂, z, by omega, rfl, hcs', by rw [List.length_drop]; omega, hcs₂, rfl, rfl⟩ ⟨rfl, rfl, rfl, congrArg (fun z => some (V.a (.int .i64 z))) e4, trivial⟩ ⟨ren_fv hcs' _ _ _, ren_fv hcs₂ _ _ _, trivial⟩ ?_⟩
      simp [nodupb, baseb, Ob.okb, frmOk, V.okb, A.okb, all_fv hcs', all_fv hcs₂] <;> decide
    · have : i = l.length := by have := of_decide_eq_false h; omega
      subst this
      rw [List.take_length] at hcs
      have hlen : 2 * l.length = (hexS l).length := by rw [hexS_length]
      conv => whnf
      generalize 2 * l.length = M at *
      repeat' (first
        | ((with_reducible refine regx_of ?_ ?_); (· decide +kernel); conv => whnf)
        | ((with_reducible refine growx_pre ?_ ?_); (· exact ⟨_, rfl⟩); conv => whnf)
        | ((with_reducible refine needm_of ?_ ?_); (· first | assumption | exact decide_eq_true (by omega) | decide +kernel | (refine decide_eq_true ?_; simp (disch := omega) only [i64w]; omega)); conv => whnf)
        | ((with_reducible refine condm_pos ?_ ?_); (· assumption); conv => whnf)
        | ((with_reducible refine condm_neg ?_ ?_); (· assumption); conv => whnf)
        | ((with_reducible refine forceL_fv (by assumption) ?_); conv => whnf)
        | ((with_reducible refine forceL_rfv (by assumption) ?_); conv => whnf)
        | ((with_reducible refine forceNm_of ?_); conv => whnf)
        | ((with_reducible refine needm_of (fv_lenL (by assumption) (by assumption)) ?_); conv => whnf)
        | ((with_reducible refine optm_var (fv_strL (by assumption) (by assumption)) (fun s hs => ?_)); conv => whnf)
        | ((with_reducible refine forceA_of ?_); conv => whnf)
        | fail)
      refine keepOf [] [] ?_ trivial ?_ (hk _ ‹_›)
      · rfl
      · rfl
set_option maxHeartbeats 0 in
theorem hex18 (s : ByteArray) (l : List UInt8) (hl : l = s.data.toList) (hs : l.length ≤ 4194304) {K : V → Hp → Prop} (hk : ∀ r : List UInt8, r = hexS l → K (.a (.str ⟨r.toArray⟩)) []) :
    Go.Eng.Fn Try.prog ro 18 [.a (.str s)] [] K := by
  have hsz : s.size = l.length := by rw [hl, Array.length_toList]; rfl
  refine Go.Eng.Fn.weak ?_
  refine Go.Eng.Fn.of 0 h18 rfl Try.func18 rfl (Nat.le_of_ble_eq_true rfl) ?_
  conv => whnf
  refine loopx_of (fun m F H => ∃ (i : Nat) (x : List UInt8) (cs : List A) (cap : Nat), i ≤ l.length ∧ m = l.length - i ∧
    ((i = 0 ∧ F = [(0, .a (.str s)), (3, .a .nils), (4, .a (.int .i64 i))] ∧ H = []) ∨
     (1 ≤ i ∧ cs = u8s (hexS (l.take i) ++ x) ∧ 2 * i + x.length = cap ∧ F = [(0, .a (.str s)), (3, .a (.slc 0 0 (2 * i) cap)), (4, .a (.int .i64 i))] ∧ H = [.cells cs 5 false]))) l.length ?_ ?_
  · exact Into.weak [] _ _ ⟨0, [], [], 0, by omega, rfl, .inl ⟨rfl, rfl, rfl⟩⟩ ⟨rfl, rfl, rfl, trivial⟩ trivial rfl
  · rintro m F H ⟨i, x, cs, cap, hi, rfl, ⟨rfl, rfl, rfl⟩ | ⟨h1i, hcs, hcap, rfl, rfl⟩⟩
    · conv => whnf
      refine condm_of (fun h => ?_) (fun h => ?_)
      · have hil : 0 < l.length := by have := of_decide_eq_true h; omega
        have e4 : IntKind.i64.wrap (((0 : Nat) : Int) + 1) = ((0 + 1 : Nat) : Int) := by decide
        have hg : byteAt s ((0 : Nat) : Int) = some l[0] := by
          subst hl
          unfold byteAt
          rw [if_pos (by omega)]
          exact byteAt_nat _ _ (by simpa using hil)
        have hsc := hexS_succ hil
        have ha := l[0].toNat_lt
        conv => whnf
        repeat' (first
          | ((with_reducible refine regx_of ?_ ?_); (· decide +kernel); conv => whnf)
          | ((with_reducible refine growx_pre ?_ ?_); (· exact ⟨_, rfl⟩); conv => whnf)
          | ((with_reducible refine needm_of ?_ ?_); (· first | assumption | exact decide_eq_true (by omega) | decide +kernel | (refine decide_eq_true ?_; simp (disch := omega) only [i64w]; omega)); conv => whnf)
          | ((with_reducible refine condm_pos ?_ ?_); (· assumption); conv => whnf)
          | ((with_reducible refine condm_neg ?_ ?_); (· assumption); conv => whnf)
          | ((with_reducible refine forceL_fv (by assumption) ?_); conv => whnf)
          | ((with_reducible refine forceL_rfv (by assumption) ?_); conv => whnf)
          | ((with_reducible refine forceNm_of ?_); conv => whnf)
          | ((with_reducible refine needm_of (fv_lenL (by assumption) (by assumption)) ?_); conv => whnf)
          | ((with_reducible refine optm_var (fv_strL (by assumption) (by assumption)) (fun s hs => ?_)); conv => whnf)
          | ((with_reducible refine forceA_of ?_); conv => whnf)
          | fail)
        generalize l[0] = c at *
        refine optm_of hg ?_
        have d1 : byteAt { data := #[48, 49, 50, 51, 52, 53, 54, 55, 56, 57, 97, 98, 99, 100, 101, 102] } (IntKind.u8.wrap ((c.toNat : Int).tdiv 16)) = some (DG.hx (c.toNat / 16)) := by
          rw [quo16 c.toNat (by omega)]; exact digs_get _ (by omega)
        have d2 : byteAt { data := #[48, 49, 50, 51, 52, 53, 54, 55, 56, 57, 97, 98, 99, 100, 101, 102] } ((c.toNat : Int).tmod 16) = some (DG.hx (c.toNat % 16)) := by
          rw [show (16 : Int) = ((16 : Nat) : Int) from rfl, tmodN]; exact digs_get _ (by omega)
        generalize DG.hx (c.toNat / 16) = b1 at *
        generalize DG.hx (c.toNat % 16) = b2 at *
        conv => whnf
        repeat' (first
          | ((with_reducible refine regx_of ?_ ?_); (· decide +kernel); conv => whnf)
          | ((with_reducible refine growx_pre ?_ ?_); (· exact ⟨_, rfl⟩); conv => whnf)
          | ((with_reducible refine needm_of ?_ ?_); (· first | assumption | exact decide_eq_true (by omega) | decide +kernel | (refine decide_eq_true ?_; simp (disch := omega) only [i64w]; omega)); conv => whnf)
          | ((with_reducible refine condm_pos ?_ ?_); (· assumption); conv => whnf)
          | ((with_reducible refine condm_neg ?_ ?_); (· assumption); conv => whnf)
          | ((with_reducible refine forceL_fv (by assumption) ?_); conv => whnf)
          | ((with_reducible refine forceL_rfv (by assumption) ?_); conv => whnf)
          | ((with_reducible refine forceNm_of ?_); conv => whnf)
          | ((with_reducible refine needm_of (fv_lenL (by assumption) (by assumption)) ?_); conv => whnf)
          | ((with_reducible refine optm_var (fv_strL (by assumption) (by assumption)) (fun s hs => ?_)); conv => whnf)
          | ((with_reducible refine forceA_of ?_); conv => whnf)
          | fail)
        refine optm_of d1 ?_
        conv => whnf
        repeat' (first
          | ((with_reducible refine regx_of ?_ ?_); (· decide +kernel); conv => whnf)
          | ((with_reducible refine growx_pre ?_ ?_); (· exact ⟨_, rfl⟩); conv => whnf)
          | ((with_reducible refine needm_of ?_ ?_); (· first | assumption | exact decide_eq_true (by omega) | decide +kernel | (refine decide_eq_true ?_; simp (disch := omega) only [i64w]; omega)); conv => whnf)
          | ((with_reducible refine condm_pos ?_ ?_); (· assumption); conv => whnf)
          | ((with_reducible refine condm_neg ?_ ?_); (· assumption); conv => whnf)
          | ((with_reducible refine forceL_fv (by assumption) ?_); conv => whnf)
          | ((with_reducible refine forceL_rfv (by assumption) ?_); conv => whnf)
          | ((with_reducible refine forceNm_of ?_); conv => whnf)
          | ((with_reducible refine needm_of (fv_lenL (by assumption) (by assumption)) ?_); conv => whnf)
          | ((with_reducible refine optm_var (fv_strL (by assumption) (by assumption)) (fun s hs => ?_)); conv => whnf)
          | ((with_reducible refine forceA_of ?_); conv => whnf)
          | fail)
        refine optm_of hg ?_
        conv => whnf
        repeat' (first
          | ((with_reducible refine regx_of ?_ ?_); (· decide +kernel); conv => whnf)
          | ((with_reducible refine growx_pre ?_ ?_); (· exact ⟨_, rfl⟩); conv => whnf)
          | ((with_reducible refine needm_of ?_ ?_); (· first | assumption | exact decide_eq_true (by omega) | decide +kernel | (refine decide_eq_true ?_; simp (disch := omega) only [i64w]; omega)); conv => whnf)
          | ((with_reducible refine condm_pos ?_ ?_); (· assumption); conv => whnf)
          | ((with_reducible refine condm_neg ?_ ?_); (· assumption); conv => whnf)
          | ((with_reducible refine forceL_fv (by assumption) ?_); conv => whnf)
          | ((with_reducible refine forceL_rfv (by assumption) ?_); conv => whnf)
          | ((with_reducible refine forceNm_of ?_); conv => whnf)
          | ((with_reducible refine needm_of (fv_lenL (by assumption) (by assumption)) ?_); conv => whnf)
          | ((with_reducible refine optm_var (fv_strL (by assumption) (by assumption)) (fun s hs => ?_)); conv => whnf)
          | ((with_reducible refine forceA_of ?_); conv => whnf)
          | fail)
        refine optm_of d2 ?_
        conv => whnf
        repeat' (first
          | ((with_reducible refine regx_of ?_ ?_); (· decide +kernel); conv => whnf)
          | ((with_reducible refine growx_pre ?_ ?_); (· exact ⟨_, rfl⟩); conv => whnf)
          | ((with_reducible refine needm_of ?_ ?_); (· first | assumption | exact decide_eq_true (by omega) | decide +kernel | (refine decide_eq_true ?_; simp (disch := omega) only [i64w]; omega)); conv => whnf)
          | ((with_reducible refine condm_pos ?_ ?_); (· assumption); conv => whnf)
          | ((with_reducible refine condm_neg ?_ ?_); (· assumption); conv => whnf)
          | ((with_reducible refine forceL_fv (by assumption) ?_); conv => whnf)
          | ((with_reducible refine forceL_rfv (by assumption) ?_); conv => whnf)
          | ((with_reducible refine forceNm_of ?_); conv => whnf)
          | ((with_reducible refine needm_of (fv_lenL (by assumption) (by assumption)) ?_); conv => whnf)
          | ((with_reducible refine optm_var (fv_strL (by assumption) (by assumption)) (fun s hs => ?_)); conv => whnf)
          | ((with_reducible refine forceA_of ?_); conv => whnf)
          | fail)
        intro cap' hcap'
        have hcap2 : 2 ≤ cap' := hcap'
        conv => whnf
        refine forceL_var (l' := u8s (List.replicate (cap' - 2) 0)) (by rw [s5, repl_u8]; simp) (fun tl htl => ?_)
        conv => whnf
        repeat' (first
          | ((with_reducible refine regx_of ?_ ?_); (· decide +kernel); conv => whnf)
          | ((with_reducible refine growx_pre ?_ ?_); (· exact ⟨_, rfl⟩); conv => whnf)
          | ((with_reducible refine needm_of ?_ ?_); (· first | assumption | exact decide_eq_true (by omega) | decide +kernel | (refine decide_eq_true ?_; simp (disch := omega) only [i64w]; omega)); conv => whnf)
          | ((with_reducible refine condm_pos ?_ ?_); (· assumption); conv => whnf)
          | ((with_reducible refine condm_neg ?_ ?_); (· assumption); conv => whnf)
          | ((with_reducible refine forceL_fv (by assumption) ?_); conv => whnf)
          | ((with_reducible refine forceL_rfv (by assumption) ?_); conv => whnf)
          | ((with_reducible refine forceNm_of ?_); conv => whnf)
          | ((with_reducible refine needm_of (fv_lenL (by assumption) (by assumption)) ?_); conv => whnf)
          | ((with_reducible refine optm_var (fv_strL (by assumption) (by assumption)) (fun s hs => ?_)); conv => whnf)
          | ((with_reducible refine forceA_of ?_); conv => whnf)
          | fail)
        have hcs' : (A.int .u8 (b1.toNat : Int) :: A.int .u8 (b2.toNat : Int) :: tl) = u8s ([b1, b2] ++ List.replicate (cap' - 2) 0) := by rw [htl]; simp
        have hcs₁ : (A.int .u8 (b1.toNat : Int) :: A.int .u8 (b2.toNat : Int) :: tl) = u8s (hexS (l.take (0 + 1)) ++ List.replicate (cap' - 2) 0) := by rw [hcs', ← hsc, List.take_zero, hexS_nil, List.nil_append]
        refine ⟨l.length - (0 + 1), by omega, Into.weak [1] _ _ ⟨0 + 1, List.replicate (cap' - 2) 0, _, cap', by omega, rfl, .inr ⟨by omega, hcs₁, by rw [List.length_replicate]; omega, rfl, rfl⟩⟩ ⟨rfl, rfl, congrArg (fun z => some (V.a (.int .i64 z))) e4, trivial⟩ ⟨ren_fv hcs' _ _ _, trivial⟩ ?_⟩
        simp [nodupb, baseb, Ob.okb, frmOk, V.okb, A.okb, all_fv htl] <;> decide
      · have h0 : l.length = 0 := by have := of_decide_eq_false h; omega
        have : l = [] := List.eq_nil_of_length_eq_zero h0
        subst this
        conv => whnf
        exact keepOf [] [] rfl trivial rfl (hk [] hexS_nil.symm)
    · conv => whnf
      refine condm_of (fun h => ?_) (fun h => ?_)
      · have hil : i < l.length := by have := of_decide_eq_true h; omega
        have e4 : IntKind.i64.wrap (↑i + 1) = ((i + 1 : Nat) : Int) := by rw [i64w (by omega) (by omega)]; rfl
        have hg : byteAt s (i : Int) = some l[i] := by
          subst hl
          unfold byteAt
          rw [if_pos (by omega)]
          exact byteAt_nat _ _ (by simpa using hil)
        have hsc := hexS_succ hil
        have ha := l[i].toNat_lt
        conv => whnf
        repeat' (first
          | ((with_reducible refine regx_of ?_ ?_); (· decide +kernel); conv => whnf)
          | ((with_reducible refine growx_pre ?_ ?_); (· exact ⟨_, rfl⟩); conv => whnf)
          | ((with_reducible refine needm_of ?_ ?_); (· first | assumption | exact decide_eq_true (by omega) | decide +kernel | (refine decide_eq_true ?_; simp (disch := omega) only [i64w]; omega)); conv => whnf)
          | ((with_reducible refine condm_pos ?_ ?_); (· assumption); conv => whnf)
          | ((with_reducible refine condm_neg ?_ ?_); (· assumption); conv => whnf)
          | ((with_reducible refine forceL_fv (by assumption) ?_); conv => whnf)
          | ((with_reducible refine forceL_rfv (by assumption) ?_); conv => whnf)
          | ((with_reducible refine forceNm_of ?_); conv => whnf)
          | ((with_reducible refine needm_of (fv_lenL (by assumption) (by assumption)) ?_); conv => whnf)
          | ((with_reducible refine optm_var (fv_strL (by assumption) (by assumption)) (fun s hs => ?_)); conv => whnf)
          | ((with_reducible refine forceA_of ?_); conv => whnf)
          | fail)
        generalize l[i] = c at *
        refine optm_of hg ?_
        have d1 : byteAt { data := #[48, 49, 50, 51, 52, 53, 54, 55, 56, 57, 97, 98, 99, 100, 101, 102] } (IntKind.u8.wrap ((c.toNat : Int).tdiv 16)) = some (DG.hx (c.toNat / 16)) := by
          rw [quo16 c.toNat (by omega)]; exact digs_get _ (by omega)
        have d2 : byteAt { data := #[48, 49, 50, 51, 52, 53, 54, 55, 56, 57, 97, 98, 99, 100, 101, 102] } ((c.toNat : Int).tmod 16) = some (DG.hx (c.toNat % 16)) := by
          rw [show (16 : Int) = ((16 : Nat) : Int) from rfl, tmodN]; exact digs_get _ (by omega)
        generalize DG.hx (c.toNat / 16) = b1 at *
        generalize DG.hx (c.toNat % 16) = b2 at *
        conv => whnf
        repeat' (first
          | ((with_reducible refine regx_of ?_ ?_); (· decide +kernel); conv => whnf)
          | ((with_reducible refine growx_pre ?_ ?_); (· exact ⟨_, rfl⟩); conv => whnf)
          | ((with_reducible refine needm_of ?_ ?_); (· first | assumption | exact decide_eq_true (by omega) | decide +kernel | (refine decide_eq_true ?_; simp (disch := omega) only [i64w]; omega)); conv => whnf)
          | ((with_reducible refine condm_pos ?_ ?_); (· assumption); conv => whnf)
          | ((with_reducible refine condm_neg ?_ ?_); (· assumption); conv => whnf)
          | ((with_reducible refine forceL_fv (by assumption) ?_); conv => whnf)
          | ((with_reducible refine forceL_rfv (by assumption) ?_); conv => whnf)
          | ((with_reducible refine forceNm_of ?_); conv => whnf)
          | ((with_reducible refine needm_of (fv_lenL (by assumption) (by assumption)) ?_); conv => whnf)
          | ((with_reducible refine optm_var (fv_strL (by assumption) (by assumption)) (fun s hs => ?_)); conv => whnf)
          | ((with_reducible refine forceA_of ?_); conv => whnf)
          | fail)
        refine optm_of d1 ?_
        conv => whnf
        repeat' (first
          | ((with_reducible refine regx_of ?_ ?_); (· decide +kernel); conv => whnf)
          | ((with_reducible refine growx_pre ?_ ?_); (· exact ⟨_, rfl⟩); conv => whnf)
          | ((with_reducible refine needm_of ?_ ?_); (· first | assumption | exact decide_eq_true (by omega) | decide +kernel | (refine decide_eq_true ?_; simp (disch := omega) only [i64w]; omega)); conv => whnf)
          | ((with_reducible refine condm_pos ?_ ?_); (· assumption); conv => whnf)
          | ((with_reducible refine condm_neg ?_ ?_); (· assumption); conv => whnf)
          | ((with_reducible refine forceL_fv (by assumption) ?_); conv => whnf)
          | ((with_reducible refine forceL_rfv (by assumption) ?_); conv => whnf)
          | ((with_reducible refine forceNm_of ?_); conv => whnf)
          | ((with_reducible refine needm_of (fv_lenL (by assumption) (by assumption)) ?_); conv => whnf)
          | ((with_reducible refine optm_var (fv_strL (by assumption) (by assumption)) (fun s hs => ?_)); conv => whnf)
          | ((with_reducible refine forceA_of ?_); conv => whnf)
          | fail)
        refine optm_of hg ?_
        conv => whnf
        repeat' (first
          | ((with_reducible refine regx_of ?_ ?_); (· decide +kernel); conv => whnf)
          | ((with_reducible refine growx_pre ?_ ?_); (· exact ⟨_, rfl⟩); conv => whnf)
          | ((with_reducible refine needm_of ?_ ?_); (· first | assumption | exact decide_eq_true (by omega) | decide +kernel | (refine decide_eq_true ?_; simp (disch := omega) only [i64w]; omega)); conv => whnf)
          | ((with_reducible refine condm_pos ?_ ?_); (· assumption); conv => whnf)
          | ((with_reducible refine condm_neg ?_ ?_); (· assumption); conv => whnf)
          | ((with_reducible refine forceL_fv (by assumption) ?_); conv => whnf)
          | ((with_reducible refine forceL_rfv (by assumption) ?_); conv => whnf)
          | ((with_reducible refine forceNm_of ?_); conv => whnf)
          | ((with_reducible refine needm_of (fv_lenL (by assumption) (by assumption)) ?_); conv => whnf)
          | ((with_reducible refine optm_var (fv_strL (by assumption) (by assumption)) (fun s hs => ?_)); conv => whnf)
          | ((with_reducible refine forceA_of ?_); conv => whnf)
          | fail)
        refine optm_of d2 ?_
        conv => whnf
        repeat' (first
          | ((with_reducible refine regx_of ?_ ?_); (· decide +kernel); conv => whnf)
          | ((with_reducible refine growx_pre ?_ ?_); (· exact ⟨_, rfl⟩); conv => whnf)
          | ((with_reducible refine needm_of ?_ ?_); (· first | assumption | exact decide_eq_true (by omega) | decide +kernel | (refine decide_eq_true ?_; simp (disch := omega) only [i64w]; omega)); conv => whnf)
          | ((with_reducible refine condm_pos ?_ ?_); (· assumption); conv => whnf)
          | ((with_reducible refine condm_neg ?_ ?_); (· assumption); conv => whnf)
          | ((with_reducible refine forceL_fv (by assumption) ?_); conv => whnf)
          | ((with_reducible refine forceL_rfv (by assumption) ?_); conv => whnf)
          | ((with_reducible refine forceNm_of ?_); conv => whnf)
          | ((with_reducible refine needm_of (fv_lenL (by assumption) (by assumption)) ?_); conv => whnf)
          | ((with_reducible refine optm_var (fv_strL (by assumption) (by assumption)) (fun s hs => ?_)); conv => whnf)
          | ((with_reducible refine forceA_of ?_); conv => whnf)
          | fail)
        refine condm_of (fun hc => ?_) (fun hc => ?_)
        · have hc' := of_decide_eq_true hc
          refine needm_of (decide_eq_true (by rw [s5, fv_len hcs, List.length_append, hexS_length, List.length_take]; simp only [List.length_drop, List.length_take, List.length_cons, List.length_nil]; omega)) ?_
          conv => whnf
          refine forceL_var (app_in2 hcs (by rw [hexS_length, List.length_take]; omega) s5 (by rw [List.length_append, hexS_length, List.length_take]; omega) (b := b1) (c := b2) rfl rfl) (fun cs' hcs' => ?_)
          rw [hsc] at hcs'
          conv => whnf
          repeat' (first
            | ((with_reducible refine regx_of ?_ ?_); (· decide +kernel); conv => whnf)
            | ((with_reducible refine growx_pre ?_ ?_); (· exact ⟨_, rfl⟩); conv => whnf)
            | ((with_reducible refine needm_of ?_ ?_); (· first | assumption | exact decide_eq_true (by omega) | decide +kernel | (refine decide_eq_true ?_; simp (disch := omega) only [i64w]; omega)); conv => whnf)
            | ((with_reducible refine condm_pos ?_ ?_); (· assumption); conv => whnf)
            | ((with_reducible refine condm_neg ?_ ?_); (· assumption); conv => whnf)
            | ((with_reducible refine forceL_fv (by assumption) ?_); conv => whnf)
            | ((with_reducible refine forceL_rfv (by assumption) ?_); conv => whnf)
            | ((with_reducible refine forceNm_of ?_); conv => whnf)
            | ((with_reducible refine needm_of (fv_lenL (by assumption) (by assumption)) ?_); conv => whnf)
            | ((with_reducible refine optm_var (fv_strL (by assumption) (by assumption)) (fun s hs => ?_)); conv => whnf)
            | ((with_reducible refine forceA_of ?_); conv => whnf)
            | fail)
          refine ⟨l.length - (i + 1), by omega, Into.weak [0] _ _ ⟨i + 1, x.drop 2, cs', cap, by omega, rfl, .inr ⟨by omega, hcs', by rw [List.length_drop]; omega, rfl, rfl⟩⟩ ⟨rfl, rfl, congrArg (fun z => some (V.a (.int .i64 z))) e4, trivial⟩ ⟨ren_fv hcs' _ _ _, trivial⟩ ?_⟩
          simp [nodupb, baseb, Ob.okb, frmOk, V.okb, A.okb, all_fv hcs'] <;> decide
        · have hc' := of_decide_eq_false hc
          conv => whnf
          refine needm_of (decide_eq_true (by rw [s5, fv_len hcs, List.length_append, hexS_length, List.length_take]; exact ⟨by omega, by show (_ : Nat) * 1 ≤ _; omega, by omega⟩)) ?_
          intro cap' hcap'
          conv => whnf
          repeat' (first
            | ((with_reducible refine regx_of ?_ ?_); (· decide +kernel); conv => whnf)
            | ((with_reducible refine growx_pre ?_ ?_); (· exact ⟨_, rfl⟩); conv => whnf)
            | ((with_reducible refine needm_of ?_ ?_); (· first | assumption | exact decide_eq_true (by omega) | decide +kernel | (refine decide_eq_true ?_; simp (disch := omega) only [i64w]; omega)); conv => whnf)
            | ((with_reducible refine condm_pos ?_ ?_); (· assumption); conv => whnf)
            | ((with_reducible refine condm_neg ?_ ?_); (· assumption); conv => whnf)
            | ((with_reducible refine forceL_fv (by assumption) ?_); conv => whnf)
            | ((with_reducible refine forceL_rfv (by assumption) ?_); conv => whnf)
            | ((with_reducible refine forceNm_of ?_); conv => whnf)
            | ((with_reducible refine needm_of (fv_lenL (by assumption) (by assumption)) ?_); conv => whnf)
            | ((with_reducible refine optm_var (fv_strL (by assumption) (by assumption)) (fun s hs => ?_)); conv => whnf)
            | ((with_reducible refine forceA_of ?_); conv => whnf)
            | fail)
          refine forceL_var (app_new2 hcs (by rw [hexS_length, List.length_take]; omega) s5 rfl (b := b1) (c := b2) (k := cap') rfl rfl) (fun cs' hcs' => ?_)
          rw [hsc] at hcs'
          conv => whnf
          repeat' (first
            | ((with_reducible refine regx_of ?_ ?_); (· decide +kernel); conv => whnf)
            | ((with_reducible refine growx_pre ?_ ?_); (· exact ⟨_, rfl⟩); conv => whnf)
            | ((with_reducible refine needm_of ?_ ?_); (· first | assumption | exact decide_eq_true (by omega) | decide +kernel | (refine decide_eq_true ?_; simp (disch := omega) only [i64w]; omega)); conv => whnf)
            | ((with_reducible refine condm_pos ?_ ?_); (· assumption); conv => whnf)
            | ((with_reducible refine condm_neg ?_ ?_); (· assumption); conv => whnf)
            | ((with_reducible refine forceL_fv (by assumption) ?_); conv => whnf)
            | ((with_reducible refine forceL_rfv (by assumption) ?_); conv => whnf)
            | ((with_reducible refine forceNm_of ?_); conv => whnf)
            | ((with_reducible refine needm_of (fv_lenL (by assumption) (by assumption)) ?_); conv => whnf)
            | ((with_reducible refine optm_var (fv_strL (by assumption) (by assumption)) (fun s hs => ?_)); conv => whnf)
            | ((with_reducible refine forceA_of ?_); conv => whnf)
            | fail)
          refine ⟨l.length - (i + 1), by omega, Into.weak [2] _ _ ⟨i + 1, List.replicate (cap' - (2 * i + 2)) 0, cs', cap', by omega, rfl, .inr ⟨by omega, hcs', by rw [List.length_replicate]; omega, rfl, rfl⟩⟩ ⟨rfl, rfl, congrArg (fun z => some (V.a (.int .i64 z))) e4, trivial⟩ ⟨ren_fv hcs' _ _ _, trivial⟩ ?_⟩
          simp [nodupb, baseb, Ob.okb, frmOk, V.okb, A.okb, all_fv hcs'] <;> decide
      · have : i = l.length := by have := of_decide_eq_false h; omega
        subst this
        rw [List.take_length] at hcs
        have hlen : 2 * l.length = (hexS l).length := by rw [hexS_length]
        conv => whnf
        generalize 2 * l.length = M at *
        repeat' (first
          | ((with_reducible refine regx_of ?_ ?_); (· decide +kernel); conv => whnf)
          | ((with_reducible refine growx_pre ?_ ?_); (· exact ⟨_, rfl⟩); conv => whnf)
          | ((with_reducible refine needm_of ?_ ?_); (· first | assumption | exact decide_eq_true (by omega) | decide +kernel | (refine decide_eq_true ?_; simp (disch := omega) only [i64w]; omega)); conv => whnf)
          | ((with_reducible refine condm_pos ?_ ?_); (· assumption); conv => whnf)
          | ((with_reducible refine condm_neg ?_ ?_); (· assumption); conv => whnf)
          | ((with_reducible refine forceL_fv (by assumption) ?_); conv => whnf)
          | ((with_reducible refine forceL_rfv (by assumption) ?_); conv => whnf)
          | ((with_reducible refine forceNm_of ?_); conv => whnf)
          | ((with_reducible refine needm_of (fv_lenL (by assumption) (by assumption)) ?_); conv => whnf)
          | ((with_reducible refine optm_var (fv_strL (by assumption) (by assumption)) (fun s hs => ?_)); conv => whnf)
          | ((with_reducible refine forceA_of ?_); conv => whnf)
          | fail)
        refine keepOf [] [] ?_ trivial ?_ (hk _ ‹_›)
        · rfl
        · rfl
end
end Go.Proofs.Ytglbldhineggaaa.DG
