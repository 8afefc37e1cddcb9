import Derived.Test.YtmnimmhpclhmfaaPV
import Derived.Test.YtmnimmhpclhmfaaEngI
namespace Go.Proofs.Ytmnimmhpclhmfaa.PC
open Go.Eng
set_option maxRecDepth 100000
theorem whole_of {l : List A} {n : Nat} (h : l.length = n) : List.drop 0 (List.take (0 + n) l) = l := by
  rw [Nat.zero_add, List.drop_zero, List.take_of_length_le (by omega)]
theorem store_all {l m : List A} (h : l.length = m.length) : storeL l 0 m = m := by
  rw [storeL_row _ _ _ (by omega)]
  simp [h]
def KY : List Sc := [.int .i64, .int .i64, .int .i64, .int .u64, .int .i64, .int .i64]
@[irreducible] def bls (L : List Bool) : List A := L.map A.bool
theorem bls_length (L : List Bool) : (bls L).length = L.length := by unfold bls; simp
theorem Pl.bl {l : List A} {L : List Bool} (e : l = bls L) : Pl l := by
  subst e
  unfold bls
  exact ⟨fun δ => by rw [List.map_map]; rfl, fun n => by simp [A.okb]⟩
theorem bls_get {l : List A} {L : List Bool} {i : Nat} {x : Bool} (e : l = bls L) (h : L[i]? = some x) : l[i]? = some (.bool x) := by
  subst e; unfold bls; rw [List.getElem?_map, h]; rfl
theorem bls_set {l : List A} {L : List Bool} {i : Nat} {x : Bool} (e : l = bls L) : storeL l i [.bool x] = bls (L.set i x) := by
  subst e; unfold bls; simp [storeL, List.map_set]
def IsInf (s : Nat) : Bool := fGtK .f64 s 9218868437227405311
def h7' : Hints := gOf [(9, [5], []), (29, [2, 6], [])]
/-- What was asked is told by the row. -/
def Told (P : List Pt) (B : List Bool) : Prop := P.length = 5 ∧ B.length = 6 ∧ ∀ k x, P[k]? = some x → B[k + 1]? = some x.ended
theorem Told.zero : Told (List.replicate 5 p0) (List.replicate 6 false) := by
  refine ⟨by simp, by simp, fun k x h => ?_⟩
  obtain ⟨hk, rfl⟩ := List.getElem?_eq_some_iff.1 h
  have : k < 5 := by simpa using hk
  rw [List.getElem?_replicate, if_pos (by omega), List.getElem_replicate]
  rfl
theorem Told.set {P : List Pt} {B : List Bool} (h : Told P B) {k : Nat} {y : Pt} (hk : k < 5) (hy : y.ended = true) : Told (P.set k y) (B.set (k + 1) true) := by
  obtain ⟨h1, h2, h3⟩ := h
  refine ⟨by rw [List.length_set]; exact h1, by rw [List.length_set]; exact h2, fun j x hj => ?_⟩
  rw [List.getElem?_set] at hj ⊢
  by_cases e : k = j
  · subst e
    rw [if_pos rfl, if_pos (by omega)] at hj
    injection hj with hj
    subst hj
    rw [if_pos rfl, if_pos (by omega), hy]
  · rw [if_neg e] at hj
    rw [if_neg (by omega)]
    exact h3 j x hj
section
variable {ro : Addr → A → Prop}
set_option maxHeartbeats 400000 in
theorem isinf28p (b : Nat) {K : V → Hp → Prop} (hK : K (.a (.bool (IsInf b))) []) : Go.Eng.Fn Try.prog ro 28 [.a (.flt .f64 b), .a (.int .i64 1)] [] K := by
  refine Go.Eng.Fn.weak ?_
  refine Go.Eng.Fn.of_code (gOf []) Try.func28 rfl (Nat.le_of_ble_eq_true rfl) ?_
  conv => whnf
  repeat' (first
    | rw [← hz6]
    | rw [← hz7]
    | ((with_reducible refine regx_of ?_ ?_); (· decide +kernel); conv => whnf)
    | ((with_reducible refine growx_pre ?_ ?_); (· exact ⟨_, rfl⟩); conv => whnf)
    | ((with_reducible refine needm_of ?_ ?_); (· first | assumption | exact decide_eq_true (by omega) | exact mkOK_of (by decide) | decide +kernel | (refine decide_eq_true ?_; simp (disch := omega) only [i64w]; omega)); conv => whnf)
    | ((with_reducible refine condm_pos ?_ ?_); (· assumption); conv => whnf)
    | ((with_reducible refine condm_neg ?_ ?_); (· assumption); conv => whnf)
    | ((with_reducible refine forceL_fv (by assumption) ?_); conv => whnf)
    | ((with_reducible refine forceL_rfv (by assumption) ?_); conv => whnf)
    | ((with_reducible refine forceNm_of ?_); conv => whnf)
    | ((with_reducible refine needm_of (fv_lenL (by assumption) (by assumption)) ?_); conv => whnf)
    | ((with_reducible refine optm_var (fv_strL (by assumption) (by assumption)) (fun s hs => ?_)); conv => whnf)
    | ((with_reducible refine forceA_of ?_); conv => whnf)
    | ((with_reducible refine forceL_pl (by assumption) ?_); conv => whnf)
    | ((with_reducible refine forceL_rpl (by assumption) ?_); conv => whnf)
    | (refine ⟨st, hsl, ld, ?_⟩; conv => whnf)
    | ((with_reducible refine needm_of ?_ ?_); (· first | (rw [hsl, hzl]; rfl) | (rw [hsl]; rfl) | (rw [hzl]; rfl)); conv => whnf)
    | ((with_reducible refine forceL_to (whole_of ?_) ?_); (· rw [hsl]; rfl); conv => whnf)
    | ((with_reducible refine forceL_to (store_all ?_) ?_); (· rw [hsl, hzl]); conv => whnf)
    | ((with_reducible apply optm_of); (· first | exact g0 | exact g1 | exact g2 | exact g3 | exact g4 | exact g5 | exact g6); conv => whnf)
    | ((refine ext_from (by rfl) from_n from_f ?_); conv => whnf)
    | fail)
  exact keepOf (v₀ := .a (.bool (IsInf b))) [] [] rfl trivial rfl hK
end
section
set_option maxHeartbeats 2000000 in
theorem order (W : World) (p : Addr) (len cap : Nat) (G : Nat → List A) (hG : IsSl W 6 KY (.rslc p len cap) len cap G) (hlen : len ≤ 9223372036854775807) (now : Nat) :
    Go.Eng.Fn Try.prog (roOf W) 7 [.a (.rslc p len cap), .a (.int .u64 now)] [] (fun v _ => v = .a (.bool true)) := by
  obtain ⟨z6, hz6⟩ : ∃ z : List A, z = [.bool false, .bool false, .bool false, .bool false, .bool false, .bool false] := ⟨_, rfl⟩
  have hz6p : Pl z6 := by rw [hz6]; exact ⟨fun _ => rfl, fun _ => rfl⟩
  have hz6b : z6 = bls (List.replicate 6 false) := by rw [hz6]; unfold bls; rfl
  obtain ⟨z7, hz7⟩ : ∃ z : List A, z = [.int .i64 0, .int .i64 0, .int .i64 0, .int .u64 0, .int .i64 0, .int .i64 0] := ⟨_, rfl⟩
  have hz7p : Pl z7 := by rw [hz7]; exact ⟨fun _ => rfl, fun _ => rfl⟩
  have hzl : z7.length = 6 := by rw [hz7]; rfl
  refine Go.Eng.Fn.of_code h7' Try.func7 rfl (Nat.le_of_ble_eq_true rfl) ?_
  conv => whnf
  repeat' (first
    | rw [← hz6]
    | rw [← hz7]
    | ((with_reducible refine regx_of ?_ ?_); (· decide +kernel); conv => whnf)
    | ((with_reducible refine growx_pre ?_ ?_); (· exact ⟨_, rfl⟩); conv => whnf)
    | ((with_reducible refine needm_of ?_ ?_); (· first | assumption | exact decide_eq_true (by omega) | exact mkOK_of (by decide) | decide +kernel | (refine decide_eq_true ?_; simp (disch := omega) only [i64w]; omega)); conv => whnf)
    | ((with_reducible refine condm_pos ?_ ?_); (· assumption); conv => whnf)
    | ((with_reducible refine condm_neg ?_ ?_); (· assumption); conv => whnf)
    | ((with_reducible refine forceL_fv (by assumption) ?_); conv => whnf)
    | ((with_reducible refine forceL_rfv (by assumption) ?_); conv => whnf)
    | ((with_reducible refine forceNm_of ?_); conv => whnf)
    | ((with_reducible refine needm_of (fv_lenL (by assumption) (by assumption)) ?_); conv => whnf)
    | ((with_reducible refine optm_var (fv_strL (by assumption) (by assumption)) (fun s hs => ?_)); conv => whnf)
    | ((with_reducible refine forceA_of ?_); conv => whnf)
    | ((with_reducible refine forceL_pl (by assumption) ?_); conv => whnf)
    | ((with_reducible refine forceL_rpl (by assumption) ?_); conv => whnf)
    | (refine ⟨st, hsl, ld, ?_⟩; conv => whnf)
    | ((with_reducible refine needm_of ?_ ?_); (· first | (rw [hsl, hzl]; rfl) | (rw [hsl]; rfl) | (rw [hzl]; rfl)); conv => whnf)
    | ((with_reducible refine forceL_to (whole_of ?_) ?_); (· rw [hsl]; rfl); conv => whnf)
    | ((with_reducible refine forceL_to (store_all ?_) ?_); (· rw [hsl, hzl]); conv => whnf)
    | ((with_reducible apply optm_of); (· first | exact g0 | exact g1 | exact g2 | exact g3 | exact g4 | exact g5 | exact g6); conv => whnf)
    | ((refine ext_from (by rfl) from_n from_f ?_); conv => whnf)
    | fail)
  refine Go.Eng.Fn.frame [] (by rfl) (by exact trivial) (by rfl) (works18 ?_)
  conv => whnf
  repeat' (first
    | rw [← hz6]
    | rw [← hz7]
    | ((with_reducible refine regx_of ?_ ?_); (· decide +kernel); conv => whnf)
    | ((with_reducible refine growx_pre ?_ ?_); (· exact ⟨_, rfl⟩); conv => whnf)
    | ((with_reducible refine needm_of ?_ ?_); (· first | assumption | exact decide_eq_true (by omega) | exact mkOK_of (by decide) | decide +kernel | (refine decide_eq_true ?_; simp (disch := omega) only [i64w]; omega)); conv => whnf)
    | ((with_reducible refine condm_pos ?_ ?_); (· assumption); conv => whnf)
    | ((with_reducible refine condm_neg ?_ ?_); (· assumption); conv => whnf)
    | ((with_reducible refine forceL_fv (by assumption) ?_); conv => whnf)
    | ((with_reducible refine forceL_rfv (by assumption) ?_); conv => whnf)
    | ((with_reducible refine forceNm_of ?_); conv => whnf)
    | ((with_reducible refine needm_of (fv_lenL (by assumption) (by assumption)) ?_); conv => whnf)
    | ((with_reducible refine optm_var (fv_strL (by assumption) (by assumption)) (fun s hs => ?_)); conv => whnf)
    | ((with_reducible refine forceA_of ?_); conv => whnf)
    | ((with_reducible refine forceL_pl (by assumption) ?_); conv => whnf)
    | ((with_reducible refine forceL_rpl (by assumption) ?_); conv => whnf)
    | (refine ⟨st, hsl, ld, ?_⟩; conv => whnf)
    | ((with_reducible refine needm_of ?_ ?_); (· first | (rw [hsl, hzl]; rfl) | (rw [hsl]; rfl) | (rw [hzl]; rfl)); conv => whnf)
    | ((with_reducible refine forceL_to (whole_of ?_) ?_); (· rw [hsl]; rfl); conv => whnf)
    | ((with_reducible refine forceL_to (store_all ?_) ?_); (· rw [hsl, hzl]); conv => whnf)
    | ((with_reducible apply optm_of); (· first | exact g0 | exact g1 | exact g2 | exact g3 | exact g4 | exact g5 | exact g6); conv => whnf)
    | ((refine ext_from (by rfl) from_n from_f ?_); conv => whnf)
    | fail)
  refine Go.Eng.Fn.frame [] (by rfl) (by exact trivial) (by rfl) (new19 5 (by decide) (by decide) (fun cs hcs => ?_))
  have hp := Pl.prow hcs
  conv => whnf
  repeat' (first
    | rw [← hz6]
    | rw [← hz7]
    | ((with_reducible refine regx_of ?_ ?_); (· decide +kernel); conv => whnf)
    | ((with_reducible refine growx_pre ?_ ?_); (· exact ⟨_, rfl⟩); conv => whnf)
    | ((with_reducible refine needm_of ?_ ?_); (· first | assumption | exact decide_eq_true (by omega) | exact mkOK_of (by decide) | decide +kernel | (refine decide_eq_true ?_; simp (disch := omega) only [i64w]; omega)); conv => whnf)
    | ((with_reducible refine condm_pos ?_ ?_); (· assumption); conv => whnf)
    | ((with_reducible refine condm_neg ?_ ?_); (· assumption); conv => whnf)
    | ((with_reducible refine forceL_fv (by assumption) ?_); conv => whnf)
    | ((with_reducible refine forceL_rfv (by assumption) ?_); conv => whnf)
    | ((with_reducible refine forceNm_of ?_); conv => whnf)
    | ((with_reducible refine needm_of (fv_lenL (by assumption) (by assumption)) ?_); conv => whnf)
    | ((with_reducible refine optm_var (fv_strL (by assumption) (by assumption)) (fun s hs => ?_)); conv => whnf)
    | ((with_reducible refine forceA_of ?_); conv => whnf)
    | ((with_reducible refine forceL_pl (by assumption) ?_); conv => whnf)
    | ((with_reducible refine forceL_rpl (by assumption) ?_); conv => whnf)
    | (refine ⟨st, hsl, ld, ?_⟩; conv => whnf)
    | ((with_reducible refine needm_of ?_ ?_); (· first | (rw [hsl, hzl]; rfl) | (rw [hsl]; rfl) | (rw [hzl]; rfl)); conv => whnf)
    | ((with_reducible refine forceL_to (whole_of ?_) ?_); (· rw [hsl]; rfl); conv => whnf)
    | ((with_reducible refine forceL_to (store_all ?_) ?_); (· rw [hsl, hzl]); conv => whnf)
    | ((with_reducible apply optm_of); (· first | exact g0 | exact g1 | exact g2 | exact g3 | exact g4 | exact g5 | exact g6); conv => whnf)
    | ((refine ext_from (by rfl) from_n from_f ?_); conv => whnf)
    | fail)
  refine loopx_of (fun m F H => ∃ (i : Nat) (P : List Pt) (B : List Bool) (cs bs : List A), i ≤ len ∧ m = len - i ∧ cs = prow P ∧ bs = bls B ∧ Told P B ∧ F = [(0, .a (.rslc p len cap)), (1, .a (.int .u64 now)), (5, .a (.ptr 1 0)), (7, .a (.ptr 2 0)), (8, .a (.int .i64 i))] ∧ H = [.cells cs 73 false, .cells [.slc 0 0 5 5] 68 false, .cells bs 45 false]) len ?_ ?_
  · exact Into.weak [0, 1, 2] [(0, .a (.rslc p len cap)), (1, .a (.int .u64 now)), (5, .a (.ptr 1 0)), (7, .a (.ptr 2 0)), (8, .a (.int .i64 (0 : Nat)))] [.cells cs 73 false, .cells [.slc 0 0 5 5] 68 false, .cells z6 45 false] ⟨0, _, _, cs, z6, by omega, rfl, hcs, hz6b, Told.zero, rfl, rfl⟩ ⟨rfl, rfl, rfl, rfl, rfl, trivial⟩ ⟨ren_pl hp _ _ _, rfl, ren_pl hz6p _ _ _, trivial⟩ (by simp [nodupb, baseb, Ob.okb, frmOk, V.okb, A.okb, hp.2, hz6p.2] <;> decide)
  · clear hcs hp cs
    rintro m F H ⟨i, P, B, cs, bs, hi, rfl, hcs, hbs, hT, rfl, rfl⟩
    have hp := Pl.prow hcs
    have hb := Pl.bl hbs
    conv => whnf
    repeat' (first
      | rw [← hz6]
      | rw [← hz7]
      | ((with_reducible refine regx_of ?_ ?_); (· decide +kernel); conv => whnf)
      | ((with_reducible refine growx_pre ?_ ?_); (· exact ⟨_, rfl⟩); conv => whnf)
      | ((with_reducible refine needm_of ?_ ?_); (· first | assumption | exact decide_eq_true (by omega) | exact mkOK_of (by decide) | decide +kernel | (refine decide_eq_true ?_; simp (disch := omega) only [i64w]; omega)); conv => whnf)
      | ((with_reducible refine condm_pos ?_ ?_); (· assumption); conv => whnf)
      | ((with_reducible refine condm_neg ?_ ?_); (· assumption); conv => whnf)
      | ((with_reducible refine forceL_fv (by assumption) ?_); conv => whnf)
      | ((with_reducible refine forceL_rfv (by assumption) ?_); conv => whnf)
      | ((with_reducible refine forceNm_of ?_); conv => whnf)
      | ((with_reducible refine needm_of (fv_lenL (by assumption) (by assumption)) ?_); conv => whnf)
      | ((with_reducible refine optm_var (fv_strL (by assumption) (by assumption)) (fun s hs => ?_)); conv => whnf)
      | ((with_reducible refine forceA_of ?_); conv => whnf)
      | ((with_reducible refine forceL_pl (by assumption) ?_); conv => whnf)
      | ((with_reducible refine forceL_rpl (by assumption) ?_); conv => whnf)
      | (refine ⟨st, hsl, ld, ?_⟩; conv => whnf)
      | ((with_reducible refine needm_of ?_ ?_); (· first | (rw [hsl, hzl]; rfl) | (rw [hsl]; rfl) | (rw [hzl]; rfl)); conv => whnf)
      | ((with_reducible refine forceL_to (whole_of ?_) ?_); (· rw [hsl]; rfl); conv => whnf)
      | ((with_reducible refine forceL_to (store_all ?_) ?_); (· rw [hsl, hzl]); conv => whnf)
      | ((with_reducible apply optm_of); (· first | exact g0 | exact g1 | exact g2 | exact g3 | exact g4 | exact g5 | exact g6); conv => whnf)
      | ((refine ext_from (by rfl) from_n from_f ?_); conv => whnf)
      | fail)
    refine condm_of (fun h => ?_) (fun h => ?_)
    · have hil : i < len := by have := of_decide_eq_true h; omega
      have hw : IntKind.i64.wrap (↑i + 1) = ((i + 1 : Nat) : Int) := by rw [i64w (by omega) (by omega)]; rfl
      obtain ⟨hf, hro⟩ := hG.get hil
      unfold KY at hf
      obtain ⟨who, r0, e0, b0, f0⟩ := Fits.int hf
      obtain ⟨kd, r1, rfl, b1, f1⟩ := Fits.int f0
      obtain ⟨I, r2, rfl, b2, f2⟩ := Fits.int f1
      obtain ⟨X, r3, rfl, b3, f3⟩ := Fits.int f2
      obtain ⟨D, r4, rfl, b4, f4⟩ := Fits.int f3
      obtain ⟨Ks, r5, rfl, b5, f5⟩ := Fits.int f4
      obtain rfl := Fits.nil f5
      obtain ⟨st, hst⟩ : ∃ st : List A, st = G i := ⟨_, rfl⟩
      rw [← hst] at hro
      rw [e0] at hst
      have hX0 : (0 : Int) ≤ X := b3.1
      have hX1 : X ≤ 18446744073709551615 := b3.2
      have hsl : st.length = 6 := by rw [hst]; rfl
      have hsp : Pl st := by rw [hst]; exact ⟨fun _ => rfl, fun _ => rfl⟩
      have g2 : st[2]? = some (.int .i64 I) := by rw [hst]; rfl
      have g3 : st[3]? = some (.int .u64 X) := by rw [hst]; rfl
      have g4 : st[4]? = some (.int .i64 D) := by rw [hst]; rfl
      have g5 : st[5]? = some (.int .i64 Ks) := by rw [hst]; rfl
      have ld : ∀ j y, st[j]? = some y → roOf W ((p.add (i * 6)).add j) y := fun j y h => by rw [addr_add_add]; exact hro j y h
      clear hro hst e0 b0 b1 b2 b3 b4 b5 f0 f1 f2 f3 f4 f5 hf hG h
      have hXn : X.toNat < 18446744073709551616 := by omega
      have hT1 := hT.1
      conv => whnf
      repeat' (first
        | rw [← hz6]
        | rw [← hz7]
        | ((with_reducible refine regx_of ?_ ?_); (· decide +kernel); conv => whnf)
        | ((with_reducible refine growx_pre ?_ ?_); (· exact ⟨_, rfl⟩); conv => whnf)
        | ((with_reducible refine needm_of ?_ ?_); (· first | assumption | exact decide_eq_true (by omega) | exact mkOK_of (by decide) | decide +kernel | (refine decide_eq_true ?_; simp (disch := omega) only [i64w]; omega)); conv => whnf)
        | ((with_reducible refine condm_pos ?_ ?_); (· assumption); conv => whnf)
        | ((with_reducible refine condm_neg ?_ ?_); (· assumption); conv => whnf)
        | ((with_reducible refine forceL_fv (by assumption) ?_); conv => whnf)
        | ((with_reducible refine forceL_rfv (by assumption) ?_); conv => whnf)
        | ((with_reducible refine forceNm_of ?_); conv => whnf)
        | ((with_reducible refine needm_of (fv_lenL (by assumption) (by assumption)) ?_); conv => whnf)
        | ((with_reducible refine optm_var (fv_strL (by assumption) (by assumption)) (fun s hs => ?_)); conv => whnf)
        | ((with_reducible refine forceA_of ?_); conv => whnf)
        | ((with_reducible refine forceL_pl (by assumption) ?_); conv => whnf)
        | ((with_reducible refine forceL_rpl (by assumption) ?_); conv => whnf)
        | (refine ⟨st, hsl, ld, ?_⟩; conv => whnf)
        | ((with_reducible refine needm_of ?_ ?_); (· first | (rw [hsl, hzl]; rfl) | (rw [hsl]; rfl) | (rw [hzl]; rfl)); conv => whnf)
        | ((with_reducible refine forceL_to (whole_of ?_) ?_); (· rw [hsl]; rfl); conv => whnf)
        | ((with_reducible refine forceL_to (store_all ?_) ?_); (· rw [hsl, hzl]); conv => whnf)
        | ((with_reducible apply optm_of); (· first | exact g0 | exact g1 | exact g2 | exact g3 | exact g4 | exact g5 | exact g6); conv => whnf)
        | ((refine ext_from (by rfl) from_n from_f ?_); conv => whnf)
        | fail)
      refine Go.Eng.Fn.frame [0, 1] (by rfl) (by exact ⟨ren_pl hp _ _ _, rfl, trivial⟩) (by simp [nodupb, V.okb, A.okb, Ob.okb, hp.2] <;> decide) (ended25 P cs 5 false hcs hT1.symm (by decide) I X.toNat hXn D Ks (fun h => ?_) (fun k x hx e hf => ?_) (fun k x hx e hf r hr cs2 hcs2 => ?_))
      ·
        conv => whnf
        repeat' (first
          | rw [← hz6]
          | rw [← hz7]
          | ((with_reducible refine regx_of ?_ ?_); (· decide +kernel); conv => whnf)
          | ((with_reducible refine growx_pre ?_ ?_); (· exact ⟨_, rfl⟩); conv => whnf)
          | ((with_reducible refine needm_of ?_ ?_); (· first | assumption | exact decide_eq_true (by omega) | exact mkOK_of (by decide) | decide +kernel | (refine decide_eq_true ?_; simp (disch := omega) only [i64w]; omega)); conv => whnf)
          | ((with_reducible refine condm_pos ?_ ?_); (· assumption); conv => whnf)
          | ((with_reducible refine condm_neg ?_ ?_); (· assumption); conv => whnf)
          | ((with_reducible refine forceL_fv (by assumption) ?_); conv => whnf)
          | ((with_reducible refine forceL_rfv (by assumption) ?_); conv => whnf)
          | ((with_reducible refine forceNm_of ?_); conv => whnf)
          | ((with_reducible refine needm_of (fv_lenL (by assumption) (by assumption)) ?_); conv => whnf)
          | ((with_reducible refine optm_var (fv_strL (by assumption) (by assumption)) (fun s hs => ?_)); conv => whnf)
          | ((with_reducible refine forceA_of ?_); conv => whnf)
          | ((with_reducible refine forceL_pl (by assumption) ?_); conv => whnf)
          | ((with_reducible refine forceL_rpl (by assumption) ?_); conv => whnf)
          | (refine ⟨st, hsl, ld, ?_⟩; conv => whnf)
          | ((with_reducible refine needm_of ?_ ?_); (· first | (rw [hsl, hzl]; rfl) | (rw [hsl]; rfl) | (rw [hzl]; rfl)); conv => whnf)
          | ((with_reducible refine forceL_to (whole_of ?_) ?_); (· rw [hsl]; rfl); conv => whnf)
          | ((with_reducible refine forceL_to (store_all ?_) ?_); (· rw [hsl, hzl]); conv => whnf)
          | ((with_reducible apply optm_of); (· first | exact g0 | exact g1 | exact g2 | exact g3 | exact g4 | exact g5 | exact g6); conv => whnf)
          | ((refine ext_from (by rfl) from_n from_f ?_); conv => whnf)
          | fail)
        refine ⟨len - (i + 1), by omega, Into.weak [0, 1, 2] [(0, .a (.rslc p len cap)), (1, .a (.int .u64 now)), (5, .a (.ptr 1 0)), (7, .a (.ptr 2 0)), (8, .a (.int .i64 ((i + 1 : Nat) : Int)))] [.cells cs 73 false, .cells [.slc 0 0 5 5] 68 false, .cells bs 45 false] ⟨i + 1, P, B, cs, bs, by omega, rfl, hcs, hbs, hT, rfl, rfl⟩ ⟨rfl, rfl, rfl, rfl, congrArg (fun z => some (V.a (.int .i64 z))) hw, trivial⟩ ⟨ren_pl hp _ _ _, rfl, ren_pl hb _ _ _, trivial⟩ (by simp [nodupb, baseb, Ob.okb, frmOk, V.okb, A.okb, hp.2, hb.2] <;> decide)⟩
      ·
        conv => whnf
        repeat' (first
          | rw [← hz6]
          | rw [← hz7]
          | ((with_reducible refine regx_of ?_ ?_); (· decide +kernel); conv => whnf)
          | ((with_reducible refine growx_pre ?_ ?_); (· exact ⟨_, rfl⟩); conv => whnf)
          | ((with_reducible refine needm_of ?_ ?_); (· first | assumption | exact decide_eq_true (by omega) | exact mkOK_of (by decide) | decide +kernel | (refine decide_eq_true ?_; simp (disch := omega) only [i64w]; omega)); conv => whnf)
          | ((with_reducible refine condm_pos ?_ ?_); (· assumption); conv => whnf)
          | ((with_reducible refine condm_neg ?_ ?_); (· assumption); conv => whnf)
          | ((with_reducible refine forceL_fv (by assumption) ?_); conv => whnf)
          | ((with_reducible refine forceL_rfv (by assumption) ?_); conv => whnf)
          | ((with_reducible refine forceNm_of ?_); conv => whnf)
          | ((with_reducible refine needm_of (fv_lenL (by assumption) (by assumption)) ?_); conv => whnf)
          | ((with_reducible refine optm_var (fv_strL (by assumption) (by assumption)) (fun s hs => ?_)); conv => whnf)
          | ((with_reducible refine forceA_of ?_); conv => whnf)
          | ((with_reducible refine forceL_pl (by assumption) ?_); conv => whnf)
          | ((with_reducible refine forceL_rpl (by assumption) ?_); conv => whnf)
          | (refine ⟨st, hsl, ld, ?_⟩; conv => whnf)
          | ((with_reducible refine needm_of ?_ ?_); (· first | (rw [hsl, hzl]; rfl) | (rw [hsl]; rfl) | (rw [hzl]; rfl)); conv => whnf)
          | ((with_reducible refine forceL_to (whole_of ?_) ?_); (· rw [hsl]; rfl); conv => whnf)
          | ((with_reducible refine forceL_to (store_all ?_) ?_); (· rw [hsl, hzl]); conv => whnf)
          | ((with_reducible apply optm_of); (· first | exact g0 | exact g1 | exact g2 | exact g3 | exact g4 | exact g5 | exact g6); conv => whnf)
          | ((refine ext_from (by rfl) from_n from_f ?_); conv => whnf)
          | fail)
        refine ⟨len - (i + 1), by omega, Into.weak [0, 1, 2] [(0, .a (.rslc p len cap)), (1, .a (.int .u64 now)), (5, .a (.ptr 1 0)), (7, .a (.ptr 2 0)), (8, .a (.int .i64 ((i + 1 : Nat) : Int)))] [.cells cs 73 false, .cells [.slc 0 0 5 5] 68 false, .cells bs 45 false] ⟨i + 1, P, B, cs, bs, by omega, rfl, hcs, hbs, hT, rfl, rfl⟩ ⟨rfl, rfl, rfl, rfl, congrArg (fun z => some (V.a (.int .i64 z))) hw, trivial⟩ ⟨ren_pl hp _ _ _, rfl, ren_pl hb _ _ _, trivial⟩ (by simp [nodupb, baseb, Ob.okb, frmOk, V.okb, A.okb, hp.2, hb.2] <;> decide)⟩
      · have hp2 := Pl.prow hcs2
        have hk5 : k < 5 := by have := (List.getElem?_eq_some_iff.1 hx).1; omega
        subst e
        have c1 : decide (((k + 1 : Nat) : Int) < 1) = false := decide_eq_false (by omega)
        have c2 : decide (((k + 1 : Nat) : Int) > 5) = false := decide_eq_false (by omega)
        have c3 : decide (0 ≤ ((k + 1 : Nat) : Int) ∧ ((k + 1 : Nat) : Int) < 6) = true := decide_eq_true (by omega)
        have hT2 := hT.set (k := k) (y := { x with ended := true, whn := X.toNat, share := r }) hk5 rfl
        conv => whnf
        repeat' (first
          | rw [← hz6]
          | rw [← hz7]
          | ((with_reducible refine regx_of ?_ ?_); (· decide +kernel); conv => whnf)
          | ((with_reducible refine growx_pre ?_ ?_); (· exact ⟨_, rfl⟩); conv => whnf)
          | ((with_reducible refine needm_of ?_ ?_); (· first | assumption | exact decide_eq_true (by omega) | exact mkOK_of (by decide) | decide +kernel | (refine decide_eq_true ?_; simp (disch := omega) only [i64w]; omega)); conv => whnf)
          | ((with_reducible refine condm_pos ?_ ?_); (· assumption); conv => whnf)
          | ((with_reducible refine condm_neg ?_ ?_); (· assumption); conv => whnf)
          | ((with_reducible refine forceL_fv (by assumption) ?_); conv => whnf)
          | ((with_reducible refine forceL_rfv (by assumption) ?_); conv => whnf)
          | ((with_reducible refine forceNm_of ?_); conv => whnf)
          | ((with_reducible refine needm_of (fv_lenL (by assumption) (by assumption)) ?_); conv => whnf)
          | ((with_reducible refine optm_var (fv_strL (by assumption) (by assumption)) (fun s hs => ?_)); conv => whnf)
          | ((with_reducible refine forceA_of ?_); conv => whnf)
          | ((with_reducible refine forceL_pl (by assumption) ?_); conv => whnf)
          | ((with_reducible refine forceL_rpl (by assumption) ?_); conv => whnf)
          | (refine ⟨st, hsl, ld, ?_⟩; conv => whnf)
          | ((with_reducible refine needm_of ?_ ?_); (· first | (rw [hsl, hzl]; rfl) | (rw [hsl]; rfl) | (rw [hzl]; rfl)); conv => whnf)
          | ((with_reducible refine forceL_to (whole_of ?_) ?_); (· rw [hsl]; rfl); conv => whnf)
          | ((with_reducible refine forceL_to (store_all ?_) ?_); (· rw [hsl, hzl]); conv => whnf)
          | ((with_reducible apply optm_of); (· first | exact g0 | exact g1 | exact g2 | exact g3 | exact g4 | exact g5 | exact g6); conv => whnf)
          | ((refine ext_from (by rfl) from_n from_f ?_); conv => whnf)
          | fail)
        have s4 : Try.prog.types[4].size = 1 := rfl
        have hbl : bs.length = 6 := by rw [hbs, bls_length]; exact hT.2.1
        refine needm_of (Bool.and_eq_true_iff.2 ⟨rfl, decide_eq_true (by rw [hbl, s4, Int.toNat_natCast]; show 0 + (k + 1) * 1 + 1 ≤ 6; omega)⟩) ?_
        conv => whnf
        repeat' (first
          | rw [← hz6]
          | rw [← hz7]
          | ((with_reducible refine regx_of ?_ ?_); (· decide +kernel); conv => whnf)
          | ((with_reducible refine growx_pre ?_ ?_); (· exact ⟨_, rfl⟩); conv => whnf)
          | ((with_reducible refine needm_of ?_ ?_); (· first | assumption | exact decide_eq_true (by omega) | exact mkOK_of (by decide) | decide +kernel | (refine decide_eq_true ?_; simp (disch := omega) only [i64w]; omega)); conv => whnf)
          | ((with_reducible refine condm_pos ?_ ?_); (· assumption); conv => whnf)
          | ((with_reducible refine condm_neg ?_ ?_); (· assumption); conv => whnf)
          | ((with_reducible refine forceL_fv (by assumption) ?_); conv => whnf)
          | ((with_reducible refine forceL_rfv (by assumption) ?_); conv => whnf)
          | ((with_reducible refine forceNm_of ?_); conv => whnf)
          | ((with_reducible refine needm_of (fv_lenL (by assumption) (by assumption)) ?_); conv => whnf)
          | ((with_reducible refine optm_var (fv_strL (by assumption) (by assumption)) (fun s hs => ?_)); conv => whnf)
          | ((with_reducible refine forceA_of ?_); conv => whnf)
          | ((with_reducible refine forceL_pl (by assumption) ?_); conv => whnf)
          | ((with_reducible refine forceL_rpl (by assumption) ?_); conv => whnf)
          | (refine ⟨st, hsl, ld, ?_⟩; conv => whnf)
          | ((with_reducible refine needm_of ?_ ?_); (· first | (rw [hsl, hzl]; rfl) | (rw [hsl]; rfl) | (rw [hzl]; rfl)); conv => whnf)
          | ((with_reducible refine forceL_to (whole_of ?_) ?_); (· rw [hsl]; rfl); conv => whnf)
          | ((with_reducible refine forceL_to (store_all ?_) ?_); (· rw [hsl, hzl]); conv => whnf)
          | ((with_reducible apply optm_of); (· first | exact g0 | exact g1 | exact g2 | exact g3 | exact g4 | exact g5 | exact g6); conv => whnf)
          | ((refine ext_from (by rfl) from_n from_f ?_); conv => whnf)
          | fail)
        refine forceL_var (l' := bls (B.set (k + 1) true)) (by rw [s4, Int.toNat_natCast, Nat.zero_add, Nat.mul_one]; exact bls_set hbs) (fun bs2 hbs2 => ?_)
        have hb2 := Pl.bl hbs2
        conv => whnf
        repeat' (first
          | rw [← hz6]
          | rw [← hz7]
          | ((with_reducible refine regx_of ?_ ?_); (· decide +kernel); conv => whnf)
          | ((with_reducible refine growx_pre ?_ ?_); (· exact ⟨_, rfl⟩); conv => whnf)
          | ((with_reducible refine needm_of ?_ ?_); (· first | assumption | exact decide_eq_true (by omega) | exact mkOK_of (by decide) | decide +kernel | (refine decide_eq_true ?_; simp (disch := omega) only [i64w]; omega)); conv => whnf)
          | ((with_reducible refine condm_pos ?_ ?_); (· assumption); conv => whnf)
          | ((with_reducible refine condm_neg ?_ ?_); (· assumption); conv => whnf)
          | ((with_reducible refine forceL_fv (by assumption) ?_); conv => whnf)
          | ((with_reducible refine forceL_rfv (by assumption) ?_); conv => whnf)
          | ((with_reducible refine forceNm_of ?_); conv => whnf)
          | ((with_reducible refine needm_of (fv_lenL (by assumption) (by assumption)) ?_); conv => whnf)
          | ((with_reducible refine optm_var (fv_strL (by assumption) (by assumption)) (fun s hs => ?_)); conv => whnf)
          | ((with_reducible refine forceA_of ?_); conv => whnf)
          | ((with_reducible refine forceL_pl (by assumption) ?_); conv => whnf)
          | ((with_reducible refine forceL_rpl (by assumption) ?_); conv => whnf)
          | (refine ⟨st, hsl, ld, ?_⟩; conv => whnf)
          | ((with_reducible refine needm_of ?_ ?_); (· first | (rw [hsl, hzl]; rfl) | (rw [hsl]; rfl) | (rw [hzl]; rfl)); conv => whnf)
          | ((with_reducible refine forceL_to (whole_of ?_) ?_); (· rw [hsl]; rfl); conv => whnf)
          | ((with_reducible refine forceL_to (store_all ?_) ?_); (· rw [hsl, hzl]); conv => whnf)
          | ((with_reducible apply optm_of); (· first | exact g0 | exact g1 | exact g2 | exact g3 | exact g4 | exact g5 | exact g6); conv => whnf)
          | ((refine ext_from (by rfl) from_n from_f ?_); conv => whnf)
          | fail)
        exact ⟨len - (i + 1), by omega, Into.weak [0, 1, 2] [(0, .a (.rslc p len cap)), (1, .a (.int .u64 now)), (5, .a (.ptr 1 0)), (7, .a (.ptr 2 0)), (8, .a (.int .i64 ((i + 1 : Nat) : Int)))] [.cells cs2 73 false, .cells [.slc 0 0 5 5] 68 false, .cells bs2 45 false] ⟨i + 1, _, _, cs2, bs2, by omega, rfl, hcs2, hbs2, hT2, rfl, rfl⟩ ⟨rfl, rfl, rfl, rfl, congrArg (fun z => some (V.a (.int .i64 z))) hw, trivial⟩ ⟨ren_pl hp2 _ _ _, rfl, ren_pl hb2 _ _ _, trivial⟩ (by simp [nodupb, baseb, Ob.okb, frmOk, V.okb, A.okb, hp2.2, hb2.2] <;> decide)⟩
    ·
      conv => whnf
      repeat' (first
        | rw [← hz6]
        | rw [← hz7]
        | ((with_reducible refine regx_of ?_ ?_); (· decide +kernel); conv => whnf)
        | ((with_reducible refine growx_pre ?_ ?_); (· exact ⟨_, rfl⟩); conv => whnf)
        | ((with_reducible refine needm_of ?_ ?_); (· first | assumption | exact decide_eq_true (by omega) | exact mkOK_of (by decide) | decide +kernel | (refine decide_eq_true ?_; simp (disch := omega) only [i64w]; omega)); conv => whnf)
        | ((with_reducible refine condm_pos ?_ ?_); (· assumption); conv => whnf)
        | ((with_reducible refine condm_neg ?_ ?_); (· assumption); conv => whnf)
        | ((with_reducible refine forceL_fv (by assumption) ?_); conv => whnf)
        | ((with_reducible refine forceL_rfv (by assumption) ?_); conv => whnf)
        | ((with_reducible refine forceNm_of ?_); conv => whnf)
        | ((with_reducible refine needm_of (fv_lenL (by assumption) (by assumption)) ?_); conv => whnf)
        | ((with_reducible refine optm_var (fv_strL (by assumption) (by assumption)) (fun s hs => ?_)); conv => whnf)
        | ((with_reducible refine forceA_of ?_); conv => whnf)
        | ((with_reducible refine forceL_pl (by assumption) ?_); conv => whnf)
        | ((with_reducible refine forceL_rpl (by assumption) ?_); conv => whnf)
        | (refine ⟨st, hsl, ld, ?_⟩; conv => whnf)
        | ((with_reducible refine needm_of ?_ ?_); (· first | (rw [hsl, hzl]; rfl) | (rw [hsl]; rfl) | (rw [hzl]; rfl)); conv => whnf)
        | ((with_reducible refine forceL_to (whole_of ?_) ?_); (· rw [hsl]; rfl); conv => whnf)
        | ((with_reducible refine forceL_to (store_all ?_) ?_); (· rw [hsl, hzl]); conv => whnf)
        | ((with_reducible apply optm_of); (· first | exact g0 | exact g1 | exact g2 | exact g3 | exact g4 | exact g5 | exact g6); conv => whnf)
        | ((refine ext_from (by rfl) from_n from_f ?_); conv => whnf)
        | fail)
      rw [Int.toNat_natCast]
      refine Go.Eng.Fn.frame [0, 1] (by rfl) (by exact ⟨ren_pl hp _ _ _, rfl, trivial⟩) (by simp [nodupb, V.okb, A.okb, Ob.okb, hp.2] <;> decide) (order26 P cs 5 false hcs hT.1.symm (by decide) (by decide) now (fun X Y xs cp hS hxs hcp => ?_))
      have hq := Pl.i64 hxs
      have hXl : X.length = 5 := by simpa using hS.len
      have hXp : X.Perm (upTo 5) := by simpa using hS.perm
      have hXn : X.Nodup := hXp.nodup_iff.2 (by decide)
      have hXm : ∀ v ∈ X, 1 ≤ v ∧ v ≤ 5 := fun v hv => by
        have := hXp.subset hv
        simp [upTo, List.range_succ] at this
        omega
      have hXd := hS.done
      conv => whnf
      repeat' (first
        | rw [← hz6]
        | rw [← hz7]
        | ((with_reducible refine regx_of ?_ ?_); (· decide +kernel); conv => whnf)
        | ((with_reducible refine growx_pre ?_ ?_); (· exact ⟨_, rfl⟩); conv => whnf)
        | ((with_reducible refine needm_of ?_ ?_); (· first | assumption | exact decide_eq_true (by omega) | exact mkOK_of (by decide) | decide +kernel | (refine decide_eq_true ?_; simp (disch := omega) only [i64w]; omega)); conv => whnf)
        | ((with_reducible refine condm_pos ?_ ?_); (· assumption); conv => whnf)
        | ((with_reducible refine condm_neg ?_ ?_); (· assumption); conv => whnf)
        | ((with_reducible refine forceL_fv (by assumption) ?_); conv => whnf)
        | ((with_reducible refine forceL_rfv (by assumption) ?_); conv => whnf)
        | ((with_reducible refine forceNm_of ?_); conv => whnf)
        | ((with_reducible refine needm_of (fv_lenL (by assumption) (by assumption)) ?_); conv => whnf)
        | ((with_reducible refine optm_var (fv_strL (by assumption) (by assumption)) (fun s hs => ?_)); conv => whnf)
        | ((with_reducible refine forceA_of ?_); conv => whnf)
        | ((with_reducible refine forceL_pl (by assumption) ?_); conv => whnf)
        | ((with_reducible refine forceL_rpl (by assumption) ?_); conv => whnf)
        | (refine ⟨st, hsl, ld, ?_⟩; conv => whnf)
        | ((with_reducible refine needm_of ?_ ?_); (· first | (rw [hsl, hzl]; rfl) | (rw [hsl]; rfl) | (rw [hzl]; rfl)); conv => whnf)
        | ((with_reducible refine forceL_to (whole_of ?_) ?_); (· rw [hsl]; rfl); conv => whnf)
        | ((with_reducible refine forceL_to (store_all ?_) ?_); (· rw [hsl, hzl]); conv => whnf)
        | ((with_reducible apply optm_of); (· first | exact g0 | exact g1 | exact g2 | exact g3 | exact g4 | exact g5 | exact g6); conv => whnf)
        | ((refine ext_from (by rfl) from_n from_f ?_); conv => whnf)
        | fail)
      refine loopx_of (fun m F H => ∃ (i : Nat) (S : List Bool) (ss : List A), i ≤ 5 ∧ m = 5 - i ∧ ss = bls S ∧ S.length = 6 ∧ (∀ v : Nat, v < 6 → S[v]? = some (decide ((v : Int) ∈ X.take i))) ∧ F = [(5, .a (.ptr 1 0)), (7, .a (.ptr 2 0)), (10, .a (.flt .f64 now)), (11, .a (.slc 3 0 5 cp)), (12, .a (.ptr 4 0)), (13, .a (.int .i64 i))] ∧ H = [.cells cs 73 false, .cells [.slc 0 0 5 5] 68 false, .cells bs 45 false, .cells xs 3 false, .cells ss 45 false]) 5 ?_ ?_
      · exact Into.weak [0, 1, 2, 3, 4] [(5, .a (.ptr 1 0)), (7, .a (.ptr 2 0)), (10, .a (.flt .f64 now)), (11, .a (.slc 3 0 5 cp)), (12, .a (.ptr 4 0)), (13, .a (.int .i64 (0 : Nat)))] [.cells cs 73 false, .cells [.slc 0 0 5 5] 68 false, .cells bs 45 false, .cells xs 3 false, .cells z6 45 false] ⟨0, _, z6, by omega, rfl, hz6b, by simp, fun v hv => by rw [List.getElem?_replicate, if_pos hv]; simp, rfl, rfl⟩ ⟨rfl, rfl, rfl, rfl, rfl, rfl, trivial⟩ ⟨ren_pl hp _ _ _, rfl, ren_pl hb _ _ _, ren_pl hq _ _ _, ren_pl hz6p _ _ _, trivial⟩ (by simp [nodupb, baseb, Ob.okb, frmOk, V.okb, A.okb, hp.2, hb.2, hq.2, hz6p.2] <;> decide)
      · skip
        rintro m F H ⟨i, S, ss, hi, rfl, hss, hSl, hSv, rfl, rfl⟩
        have hs := Pl.bl hss
        conv => whnf
        repeat' (first
          | rw [← hz6]
          | rw [← hz7]
          | ((with_reducible refine regx_of ?_ ?_); (· decide +kernel); conv => whnf)
          | ((with_reducible refine growx_pre ?_ ?_); (· exact ⟨_, rfl⟩); conv => whnf)
          | ((with_reducible refine needm_of ?_ ?_); (· first | assumption | exact decide_eq_true (by omega) | exact mkOK_of (by decide) | decide +kernel | (refine decide_eq_true ?_; simp (disch := omega) only [i64w]; omega)); conv => whnf)
          | ((with_reducible refine condm_pos ?_ ?_); (· assumption); conv => whnf)
          | ((with_reducible refine condm_neg ?_ ?_); (· assumption); conv => whnf)
          | ((with_reducible refine forceL_fv (by assumption) ?_); conv => whnf)
          | ((with_reducible refine forceL_rfv (by assumption) ?_); conv => whnf)
          | ((with_reducible refine forceNm_of ?_); conv => whnf)
          | ((with_reducible refine needm_of (fv_lenL (by assumption) (by assumption)) ?_); conv => whnf)
          | ((with_reducible refine optm_var (fv_strL (by assumption) (by assumption)) (fun s hs => ?_)); conv => whnf)
          | ((with_reducible refine forceA_of ?_); conv => whnf)
          | ((with_reducible refine forceL_pl (by assumption) ?_); conv => whnf)
          | ((with_reducible refine forceL_rpl (by assumption) ?_); conv => whnf)
          | (refine ⟨st, hsl, ld, ?_⟩; conv => whnf)
          | ((with_reducible refine needm_of ?_ ?_); (· first | (rw [hsl, hzl]; rfl) | (rw [hsl]; rfl) | (rw [hzl]; rfl)); conv => whnf)
          | ((with_reducible refine forceL_to (whole_of ?_) ?_); (· rw [hsl]; rfl); conv => whnf)
          | ((with_reducible refine forceL_to (store_all ?_) ?_); (· rw [hsl, hzl]); conv => whnf)
          | ((with_reducible apply optm_of); (· first | exact g0 | exact g1 | exact g2 | exact g3 | exact g4 | exact g5 | exact g6); conv => whnf)
          | ((refine ext_from (by rfl) from_n from_f ?_); conv => whnf)
          | fail)
        refine condm_of (fun h => ?_) (fun h => ?_)
        · have hi5 : i < 5 := by have := of_decide_eq_true h; omega
          have hw : IntKind.i64.wrap (↑i + 1) = ((i + 1 : Nat) : Int) := by rw [i64w (by omega) (by omega)]; rfl
          obtain ⟨v, hv⟩ : ∃ v, X[i]? = some v := ⟨_, List.getElem?_eq_getElem (by omega)⟩
          obtain ⟨k, rfl⟩ : ∃ k : Nat, v = ((k + 1 : Nat) : Int) := ⟨(v - 1).toNat, by have := hXm v (List.mem_of_getElem? hv); omega⟩
          have hk5 : k < 5 := by have := hXm _ (List.mem_of_getElem? hv); omega
          obtain ⟨x, hx⟩ : ∃ x, P[k]? = some x := ⟨_, List.getElem?_eq_getElem (by rw [hT.1]; exact hk5)⟩
          have hvX : (X ++ Y)[i]? = some ((k + 1 : Nat) : Int) := by rw [List.getElem?_append_left (by omega)]; exact hv
          have s4 : Try.prog.types[4].size = 1 := rfl
          have g0 : xs[0 + (i : Int).toNat * Try.prog.types[3].size]? = some (.int .i64 ((k + 1 : Nat) : Int)) := by rw [s3, Int.toNat_natCast, Nat.zero_add, Nat.mul_one]; exact i64s_get hxs hvX
          have hno : ((k + 1 : Nat) : Int) ∉ X.take i := fun hm => by
            obtain ⟨j, hj⟩ := List.getElem?_of_mem hm
            rw [List.getElem?_take] at hj
            split at hj
            · have := (List.getElem?_inj (by omega) hXn).1 (hj.trans hv.symm)
              omega
            · cases hj
          have g1 : ss[0 + ((k + 1 : Nat) : Int).toNat * Try.prog.types[4].size]? = some (.bool false) := by
            rw [s4, Int.toNat_natCast, Nat.zero_add, Nat.mul_one]
            exact bls_get hss (by rw [hSv (k + 1) (by omega), decide_eq_false hno])
          have g2 : bs[0 + ((k + 1 : Nat) : Int).toNat * Try.prog.types[4].size]? = some (.bool x.ended) := by
            rw [s4, Int.toNat_natCast, Nat.zero_add, Nat.mul_one]
            exact bls_get hbs (hT.2.2 k x hx)
          have c1 : decide (((k + 1 : Nat) : Int) < 1) = false := decide_eq_false (by omega)
          have c2 : decide (((k + 1 : Nat) : Int) > 5) = false := decide_eq_false (by omega)
          have c3 : decide (0 ≤ ((k + 1 : Nat) : Int) ∧ ((k + 1 : Nat) : Int) < 6) = true := decide_eq_true (by omega)
          conv => whnf
          repeat' (first
            | rw [← hz6]
            | rw [← hz7]
            | ((with_reducible refine regx_of ?_ ?_); (· decide +kernel); conv => whnf)
            | ((with_reducible refine growx_pre ?_ ?_); (· exact ⟨_, rfl⟩); conv => whnf)
            | ((with_reducible refine needm_of ?_ ?_); (· first | assumption | exact decide_eq_true (by omega) | exact mkOK_of (by decide) | decide +kernel | (refine decide_eq_true ?_; simp (disch := omega) only [i64w]; omega)); conv => whnf)
            | ((with_reducible refine condm_pos ?_ ?_); (· assumption); conv => whnf)
            | ((with_reducible refine condm_neg ?_ ?_); (· assumption); conv => whnf)
            | ((with_reducible refine forceL_fv (by assumption) ?_); conv => whnf)
            | ((with_reducible refine forceL_rfv (by assumption) ?_); conv => whnf)
            | ((with_reducible refine forceNm_of ?_); conv => whnf)
            | ((with_reducible refine needm_of (fv_lenL (by assumption) (by assumption)) ?_); conv => whnf)
            | ((with_reducible refine optm_var (fv_strL (by assumption) (by assumption)) (fun s hs => ?_)); conv => whnf)
            | ((with_reducible refine forceA_of ?_); conv => whnf)
            | ((with_reducible refine forceL_pl (by assumption) ?_); conv => whnf)
            | ((with_reducible refine forceL_rpl (by assumption) ?_); conv => whnf)
            | (refine ⟨st, hsl, ld, ?_⟩; conv => whnf)
            | ((with_reducible refine needm_of ?_ ?_); (· first | (rw [hsl, hzl]; rfl) | (rw [hsl]; rfl) | (rw [hzl]; rfl)); conv => whnf)
            | ((with_reducible refine forceL_to (whole_of ?_) ?_); (· rw [hsl]; rfl); conv => whnf)
            | ((with_reducible refine forceL_to (store_all ?_) ?_); (· rw [hsl, hzl]); conv => whnf)
            | ((with_reducible apply optm_of); (· first | exact g0 | exact g1 | exact g2 | exact g3 | exact g4 | exact g5 | exact g6); conv => whnf)
            | ((refine ext_from (by rfl) from_n from_f ?_); conv => whnf)
            | fail)
          have hsl6 : ss.length = 6 := by rw [hss, bls_length]; exact hSl
          refine needm_of (Bool.and_eq_true_iff.2 ⟨rfl, decide_eq_true (by rw [hsl6, s4, Int.toNat_natCast]; show 0 + (k + 1) * 1 + 1 ≤ 6; omega)⟩) ?_
          conv => whnf
          repeat' (first
            | rw [← hz6]
            | rw [← hz7]
            | ((with_reducible refine regx_of ?_ ?_); (· decide +kernel); conv => whnf)
            | ((with_reducible refine growx_pre ?_ ?_); (· exact ⟨_, rfl⟩); conv => whnf)
            | ((with_reducible refine needm_of ?_ ?_); (· first | assumption | exact decide_eq_true (by omega) | exact mkOK_of (by decide) | decide +kernel | (refine decide_eq_true ?_; simp (disch := omega) only [i64w]; omega)); conv => whnf)
            | ((with_reducible refine condm_pos ?_ ?_); (· assumption); conv => whnf)
            | ((with_reducible refine condm_neg ?_ ?_); (· assumption); conv => whnf)
            | ((with_reducible refine forceL_fv (by assumption) ?_); conv => whnf)
            | ((with_reducible refine forceL_rfv (by assumption) ?_); conv => whnf)
            | ((with_reducible refine forceNm_of ?_); conv => whnf)
            | ((with_reducible refine needm_of (fv_lenL (by assumption) (by assumption)) ?_); conv => whnf)
            | ((with_reducible refine optm_var (fv_strL (by assumption) (by assumption)) (fun s hs => ?_)); conv => whnf)
            | ((with_reducible refine forceA_of ?_); conv => whnf)
            | ((with_reducible refine forceL_pl (by assumption) ?_); conv => whnf)
            | ((with_reducible refine forceL_rpl (by assumption) ?_); conv => whnf)
            | (refine ⟨st, hsl, ld, ?_⟩; conv => whnf)
            | ((with_reducible refine needm_of ?_ ?_); (· first | (rw [hsl, hzl]; rfl) | (rw [hsl]; rfl) | (rw [hzl]; rfl)); conv => whnf)
            | ((with_reducible refine forceL_to (whole_of ?_) ?_); (· rw [hsl]; rfl); conv => whnf)
            | ((with_reducible refine forceL_to (store_all ?_) ?_); (· rw [hsl, hzl]); conv => whnf)
            | ((with_reducible apply optm_of); (· first | exact g0 | exact g1 | exact g2 | exact g3 | exact g4 | exact g5 | exact g6); conv => whnf)
            | ((refine ext_from (by rfl) from_n from_f ?_); conv => whnf)
            | fail)
          refine forceL_var (l' := bls (S.set (k + 1) true)) (by rw [s4, Int.toNat_natCast, Nat.zero_add, Nat.mul_one]; exact bls_set hss) (fun ss2 hss2 => ?_)
          have hs2 := Pl.bl hss2
          have hSv2 : ∀ v : Nat, v < 6 → (S.set (k + 1) true)[v]? = some (decide ((v : Int) ∈ X.take (i + 1))) := fun v hv6 => by
            rw [List.getElem?_set, List.take_add_one, hv]
            by_cases e : k + 1 = v
            · subst e
              rw [if_pos rfl, if_pos (by omega)]
              simp
            · rw [if_neg e, hSv v hv6]
              congr 1
              rw [decide_eq_decide]
              simp only [Option.toList_some, List.mem_append, List.mem_singleton]
              constructor
              · exact fun h => .inl h
              · rintro (h | h)
                · exact h
                · omega
          conv => whnf
          repeat' (first
            | rw [← hz6]
            | rw [← hz7]
            | ((with_reducible refine regx_of ?_ ?_); (· decide +kernel); conv => whnf)
            | ((with_reducible refine growx_pre ?_ ?_); (· exact ⟨_, rfl⟩); conv => whnf)
            | ((with_reducible refine needm_of ?_ ?_); (· first | assumption | exact decide_eq_true (by omega) | exact mkOK_of (by decide) | decide +kernel | (refine decide_eq_true ?_; simp (disch := omega) only [i64w]; omega)); conv => whnf)
            | ((with_reducible refine condm_pos ?_ ?_); (· assumption); conv => whnf)
            | ((with_reducible refine condm_neg ?_ ?_); (· assumption); conv => whnf)
            | ((with_reducible refine forceL_fv (by assumption) ?_); conv => whnf)
            | ((with_reducible refine forceL_rfv (by assumption) ?_); conv => whnf)
            | ((with_reducible refine forceNm_of ?_); conv => whnf)
            | ((with_reducible refine needm_of (fv_lenL (by assumption) (by assumption)) ?_); conv => whnf)
            | ((with_reducible refine optm_var (fv_strL (by assumption) (by assumption)) (fun s hs => ?_)); conv => whnf)
            | ((with_reducible refine forceA_of ?_); conv => whnf)
            | ((with_reducible refine forceL_pl (by assumption) ?_); conv => whnf)
            | ((with_reducible refine forceL_rpl (by assumption) ?_); conv => whnf)
            | (refine ⟨st, hsl, ld, ?_⟩; conv => whnf)
            | ((with_reducible refine needm_of ?_ ?_); (· first | (rw [hsl, hzl]; rfl) | (rw [hsl]; rfl) | (rw [hzl]; rfl)); conv => whnf)
            | ((with_reducible refine forceL_to (whole_of ?_) ?_); (· rw [hsl]; rfl); conv => whnf)
            | ((with_reducible refine forceL_to (store_all ?_) ?_); (· rw [hsl, hzl]); conv => whnf)
            | ((with_reducible apply optm_of); (· first | exact g0 | exact g1 | exact g2 | exact g3 | exact g4 | exact g5 | exact g6); conv => whnf)
            | ((refine ext_from (by rfl) from_n from_f ?_); conv => whnf)
            | fail)
          refine Go.Eng.Fn.frame [0, 1] (by rfl) (by exact ⟨ren_pl hp _ _ _, rfl, trivial⟩) (by simp [nodupb, V.okb, A.okb, Ob.okb, hp.2] <;> decide) (score27 P cs 5 false hcs hT.1.symm (by decide) ((k + 1 : Nat) : Int) now (fun t ht => ?_))
          have hsc := scoreA_in (now := now) hx
          have hkt := sk_of ht
          cases he : x.ended with
          | false =>
            rw [he] at g2 hsc
            rw [hsc] at ht
            have htl := ans_lit ht rfl
            have hinf : IsInf t = true := by rw [htl]; unfold IsInf fGtK; decide +kernel
            clear htl
            conv => whnf
            repeat' (first
              | rw [← hz6]
              | rw [← hz7]
              | ((with_reducible refine regx_of ?_ ?_); (· decide +kernel); conv => whnf)
              | ((with_reducible refine growx_pre ?_ ?_); (· exact ⟨_, rfl⟩); conv => whnf)
              | ((with_reducible refine needm_of ?_ ?_); (· first | assumption | exact decide_eq_true (by omega) | exact mkOK_of (by decide) | decide +kernel | (refine decide_eq_true ?_; simp (disch := omega) only [i64w]; omega)); conv => whnf)
              | ((with_reducible refine condm_pos ?_ ?_); (· assumption); conv => whnf)
              | ((with_reducible refine condm_neg ?_ ?_); (· assumption); conv => whnf)
              | ((with_reducible refine forceL_fv (by assumption) ?_); conv => whnf)
              | ((with_reducible refine forceL_rfv (by assumption) ?_); conv => whnf)
              | ((with_reducible refine forceNm_of ?_); conv => whnf)
              | ((with_reducible refine needm_of (fv_lenL (by assumption) (by assumption)) ?_); conv => whnf)
              | ((with_reducible refine optm_var (fv_strL (by assumption) (by assumption)) (fun s hs => ?_)); conv => whnf)
              | ((with_reducible refine forceA_of ?_); conv => whnf)
              | ((with_reducible refine forceL_pl (by assumption) ?_); conv => whnf)
              | ((with_reducible refine forceL_rpl (by assumption) ?_); conv => whnf)
              | (refine ⟨st, hsl, ld, ?_⟩; conv => whnf)
              | ((with_reducible refine needm_of ?_ ?_); (· first | (rw [hsl, hzl]; rfl) | (rw [hsl]; rfl) | (rw [hzl]; rfl)); conv => whnf)
              | ((with_reducible refine forceL_to (whole_of ?_) ?_); (· rw [hsl]; rfl); conv => whnf)
              | ((with_reducible refine forceL_to (store_all ?_) ?_); (· rw [hsl, hzl]); conv => whnf)
              | ((with_reducible apply optm_of); (· first | exact g0 | exact g1 | exact g2 | exact g3 | exact g4 | exact g5 | exact g6); conv => whnf)
              | ((refine ext_from (by rfl) from_n from_f ?_); conv => whnf)
              | fail)
            refine Go.Eng.Fn.frame [] (by rfl) (by exact trivial) (by rfl) (isinf28p t ?_)
            rw [hinf]
            conv => whnf
            repeat' (first
              | rw [← hz6]
              | rw [← hz7]
              | ((with_reducible refine regx_of ?_ ?_); (· decide +kernel); conv => whnf)
              | ((with_reducible refine growx_pre ?_ ?_); (· exact ⟨_, rfl⟩); conv => whnf)
              | ((with_reducible refine needm_of ?_ ?_); (· first | assumption | exact decide_eq_true (by omega) | exact mkOK_of (by decide) | decide +kernel | (refine decide_eq_true ?_; simp (disch := omega) only [i64w]; omega)); conv => whnf)
              | ((with_reducible refine condm_pos ?_ ?_); (· assumption); conv => whnf)
              | ((with_reducible refine condm_neg ?_ ?_); (· assumption); conv => whnf)
              | ((with_reducible refine forceL_fv (by assumption) ?_); conv => whnf)
              | ((with_reducible refine forceL_rfv (by assumption) ?_); conv => whnf)
              | ((with_reducible refine forceNm_of ?_); conv => whnf)
              | ((with_reducible refine needm_of (fv_lenL (by assumption) (by assumption)) ?_); conv => whnf)
              | ((with_reducible refine optm_var (fv_strL (by assumption) (by assumption)) (fun s hs => ?_)); conv => whnf)
              | ((with_reducible refine forceA_of ?_); conv => whnf)
              | ((with_reducible refine forceL_pl (by assumption) ?_); conv => whnf)
              | ((with_reducible refine forceL_rpl (by assumption) ?_); conv => whnf)
              | (refine ⟨st, hsl, ld, ?_⟩; conv => whnf)
              | ((with_reducible refine needm_of ?_ ?_); (· first | (rw [hsl, hzl]; rfl) | (rw [hsl]; rfl) | (rw [hzl]; rfl)); conv => whnf)
              | ((with_reducible refine forceL_to (whole_of ?_) ?_); (· rw [hsl]; rfl); conv => whnf)
              | ((with_reducible refine forceL_to (store_all ?_) ?_); (· rw [hsl, hzl]); conv => whnf)
              | ((with_reducible apply optm_of); (· first | exact g0 | exact g1 | exact g2 | exact g3 | exact g4 | exact g5 | exact g6); conv => whnf)
              | ((refine ext_from (by rfl) from_n from_f ?_); conv => whnf)
              | fail)
            refine condm_of (fun h0 => ?_) (fun h0 => ?_)
            · have hi0 : 0 < i := by have := of_decide_eq_true h0; omega
              obtain ⟨j, hj⟩ : ∃ j, i = j + 1 := ⟨i - 1, by omega⟩
              obtain ⟨u, hu⟩ : ∃ u, X[j]? = some u := ⟨_, List.getElem?_eq_getElem (by omega)⟩
              have hjw : IntKind.i64.wrap (↑i - 1) = (j : Int) := by rw [i64w (by omega) (by omega)]; omega
              have hbe : before (sk P now) u ((k + 1 : Nat) : Int) := by
                obtain ⟨h1, rfl⟩ := List.getElem?_eq_some_iff.1 hu
                obtain ⟨h2, h3⟩ := List.getElem?_eq_some_iff.1 hv
                have := List.pairwise_iff_getElem.1 hXd j i h1 h2 (by omega)
                rw [h3] at this
                exact this
              have d0 : decide (0 ≤ IntKind.i64.wrap (↑i - 1) ∧ IntKind.i64.wrap (↑i - 1) < 5) = true := by rw [hjw]; exact decide_eq_true (by omega)
              have g3 : xs[0 + (IntKind.i64.wrap (↑i - 1)).toNat * Try.prog.types[3].size]? = some (.int .i64 u) := by
                rw [hjw, s3, Int.toNat_natCast, Nat.zero_add, Nat.mul_one]
                exact i64s_get hxs (by rw [List.getElem?_append_left (by omega)]; exact hu)
              conv => whnf
              repeat' (first
                | rw [← hz6]
                | rw [← hz7]
                | ((with_reducible refine regx_of ?_ ?_); (· decide +kernel); conv => whnf)
                | ((with_reducible refine growx_pre ?_ ?_); (· exact ⟨_, rfl⟩); conv => whnf)
                | ((with_reducible refine needm_of ?_ ?_); (· first | assumption | exact decide_eq_true (by omega) | exact mkOK_of (by decide) | decide +kernel | (refine decide_eq_true ?_; simp (disch := omega) only [i64w]; omega)); conv => whnf)
                | ((with_reducible refine condm_pos ?_ ?_); (· assumption); conv => whnf)
                | ((with_reducible refine condm_neg ?_ ?_); (· assumption); conv => whnf)
                | ((with_reducible refine forceL_fv (by assumption) ?_); conv => whnf)
                | ((with_reducible refine forceL_rfv (by assumption) ?_); conv => whnf)
                | ((with_reducible refine forceNm_of ?_); conv => whnf)
                | ((with_reducible refine needm_of (fv_lenL (by assumption) (by assumption)) ?_); conv => whnf)
                | ((with_reducible refine optm_var (fv_strL (by assumption) (by assumption)) (fun s hs => ?_)); conv => whnf)
                | ((with_reducible refine forceA_of ?_); conv => whnf)
                | ((with_reducible refine forceL_pl (by assumption) ?_); conv => whnf)
                | ((with_reducible refine forceL_rpl (by assumption) ?_); conv => whnf)
                | (refine ⟨st, hsl, ld, ?_⟩; conv => whnf)
                | ((with_reducible refine needm_of ?_ ?_); (· first | (rw [hsl, hzl]; rfl) | (rw [hsl]; rfl) | (rw [hzl]; rfl)); conv => whnf)
                | ((with_reducible refine forceL_to (whole_of ?_) ?_); (· rw [hsl]; rfl); conv => whnf)
                | ((with_reducible refine forceL_to (store_all ?_) ?_); (· rw [hsl, hzl]); conv => whnf)
                | ((with_reducible apply optm_of); (· first | exact g0 | exact g1 | exact g2 | exact g3 | exact g4 | exact g5 | exact g6); conv => whnf)
                | ((refine ext_from (by rfl) from_n from_f ?_); conv => whnf)
                | fail)
              refine Go.Eng.Fn.frame [0, 1] (by rfl) (by exact ⟨ren_pl hp _ _ _, rfl, trivial⟩) (by simp [nodupb, V.okb, A.okb, Ob.okb, hp.2] <;> decide) (score27 P cs 5 false hcs hT.1.symm (by decide) u now (fun q hq2 => ?_))
              have hkq := sk_of hq2
              have l1 : less q t = false := by
                rw [less_key, hkq, hkt]
                rcases hbe with h | ⟨h, _⟩
                · exact kl_asymm h
                · rw [h]; exact kl_irrefl _
              have l2 : less t q = true ∨ (less t q = false ∧ decide (u > ((k + 1 : Nat) : Int)) = false) := by
                rw [less_key, hkq, hkt]
                rcases hbe with h | ⟨h, h'⟩
                · exact .inl h
                · exact .inr ⟨by rw [h]; exact kl_irrefl _, decide_eq_false (by omega)⟩
              conv => whnf
              repeat' (first
                | rw [← hz6]
                | rw [← hz7]
                | ((with_reducible refine regx_of ?_ ?_); (· decide +kernel); conv => whnf)
                | ((with_reducible refine growx_pre ?_ ?_); (· exact ⟨_, rfl⟩); conv => whnf)
                | ((with_reducible refine needm_of ?_ ?_); (· first | assumption | exact decide_eq_true (by omega) | exact mkOK_of (by decide) | decide +kernel | (refine decide_eq_true ?_; simp (disch := omega) only [i64w]; omega)); conv => whnf)
                | ((with_reducible refine condm_pos ?_ ?_); (· assumption); conv => whnf)
                | ((with_reducible refine condm_neg ?_ ?_); (· assumption); conv => whnf)
                | ((with_reducible refine forceL_fv (by assumption) ?_); conv => whnf)
                | ((with_reducible refine forceL_rfv (by assumption) ?_); conv => whnf)
                | ((with_reducible refine forceNm_of ?_); conv => whnf)
                | ((with_reducible refine needm_of (fv_lenL (by assumption) (by assumption)) ?_); conv => whnf)
                | ((with_reducible refine optm_var (fv_strL (by assumption) (by assumption)) (fun s hs => ?_)); conv => whnf)
                | ((with_reducible refine forceA_of ?_); conv => whnf)
                | ((with_reducible refine forceL_pl (by assumption) ?_); conv => whnf)
                | ((with_reducible refine forceL_rpl (by assumption) ?_); conv => whnf)
                | (refine ⟨st, hsl, ld, ?_⟩; conv => whnf)
                | ((with_reducible refine needm_of ?_ ?_); (· first | (rw [hsl, hzl]; rfl) | (rw [hsl]; rfl) | (rw [hzl]; rfl)); conv => whnf)
                | ((with_reducible refine forceL_to (whole_of ?_) ?_); (· rw [hsl]; rfl); conv => whnf)
                | ((with_reducible refine forceL_to (store_all ?_) ?_); (· rw [hsl, hzl]); conv => whnf)
                | ((with_reducible apply optm_of); (· first | exact g0 | exact g1 | exact g2 | exact g3 | exact g4 | exact g5 | exact g6); conv => whnf)
                | ((refine ext_from (by rfl) from_n from_f ?_); conv => whnf)
                | fail)
              refine Go.Eng.Fn.frame [] (by rfl) (by exact trivial) (by rfl) (less11 q t ?_)
              rw [l1]
              conv => whnf
              repeat' (first
                | rw [← hz6]
                | rw [← hz7]
                | ((with_reducible refine regx_of ?_ ?_); (· decide +kernel); conv => whnf)
                | ((with_reducible refine growx_pre ?_ ?_); (· exact ⟨_, rfl⟩); conv => whnf)
                | ((with_reducible refine needm_of ?_ ?_); (· first | assumption | exact decide_eq_true (by omega) | exact mkOK_of (by decide) | decide +kernel | (refine decide_eq_true ?_; simp (disch := omega) only [i64w]; omega)); conv => whnf)
                | ((with_reducible refine condm_pos ?_ ?_); (· assumption); conv => whnf)
                | ((with_reducible refine condm_neg ?_ ?_); (· assumption); conv => whnf)
                | ((with_reducible refine forceL_fv (by assumption) ?_); conv => whnf)
                | ((with_reducible refine forceL_rfv (by assumption) ?_); conv => whnf)
                | ((with_reducible refine forceNm_of ?_); conv => whnf)
                | ((with_reducible refine needm_of (fv_lenL (by assumption) (by assumption)) ?_); conv => whnf)
                | ((with_reducible refine optm_var (fv_strL (by assumption) (by assumption)) (fun s hs => ?_)); conv => whnf)
                | ((with_reducible refine forceA_of ?_); conv => whnf)
                | ((with_reducible refine forceL_pl (by assumption) ?_); conv => whnf)
                | ((with_reducible refine forceL_rpl (by assumption) ?_); conv => whnf)
                | (refine ⟨st, hsl, ld, ?_⟩; conv => whnf)
                | ((with_reducible refine needm_of ?_ ?_); (· first | (rw [hsl, hzl]; rfl) | (rw [hsl]; rfl) | (rw [hzl]; rfl)); conv => whnf)
                | ((with_reducible refine forceL_to (whole_of ?_) ?_); (· rw [hsl]; rfl); conv => whnf)
                | ((with_reducible refine forceL_to (store_all ?_) ?_); (· rw [hsl, hzl]); conv => whnf)
                | ((with_reducible apply optm_of); (· first | exact g0 | exact g1 | exact g2 | exact g3 | exact g4 | exact g5 | exact g6); conv => whnf)
                | ((refine ext_from (by rfl) from_n from_f ?_); conv => whnf)
                | fail)
              refine Go.Eng.Fn.frame [] (by rfl) (by exact trivial) (by rfl) (less11 t q ?_)
              rcases l2 with l2 | ⟨l2, l3⟩
              · rw [l2]
                conv => whnf
                repeat' (first
                  | rw [← hz6]
                  | rw [← hz7]
                  | ((with_reducible refine regx_of ?_ ?_); (· decide +kernel); conv => whnf)
                  | ((with_reducible refine growx_pre ?_ ?_); (· exact ⟨_, rfl⟩); conv => whnf)
                  | ((with_reducible refine needm_of ?_ ?_); (· first | assumption | exact decide_eq_true (by omega) | exact mkOK_of (by decide) | decide +kernel | (refine decide_eq_true ?_; simp (disch := omega) only [i64w]; omega)); conv => whnf)
                  | ((with_reducible refine condm_pos ?_ ?_); (· assumption); conv => whnf)
                  | ((with_reducible refine condm_neg ?_ ?_); (· assumption); conv => whnf)
                  | ((with_reducible refine forceL_fv (by assumption) ?_); conv => whnf)
                  | ((with_reducible refine forceL_rfv (by assumption) ?_); conv => whnf)
                  | ((with_reducible refine forceNm_of ?_); conv => whnf)
                  | ((with_reducible refine needm_of (fv_lenL (by assumption) (by assumption)) ?_); conv => whnf)
                  | ((with_reducible refine optm_var (fv_strL (by assumption) (by assumption)) (fun s hs => ?_)); conv => whnf)
                  | ((with_reducible refine forceA_of ?_); conv => whnf)
                  | ((with_reducible refine forceL_pl (by assumption) ?_); conv => whnf)
                  | ((with_reducible refine forceL_rpl (by assumption) ?_); conv => whnf)
                  | (refine ⟨st, hsl, ld, ?_⟩; conv => whnf)
                  | ((with_reducible refine needm_of ?_ ?_); (· first | (rw [hsl, hzl]; rfl) | (rw [hsl]; rfl) | (rw [hzl]; rfl)); conv => whnf)
                  | ((with_reducible refine forceL_to (whole_of ?_) ?_); (· rw [hsl]; rfl); conv => whnf)
                  | ((with_reducible refine forceL_to (store_all ?_) ?_); (· rw [hsl, hzl]); conv => whnf)
                  | ((with_reducible apply optm_of); (· first | exact g0 | exact g1 | exact g2 | exact g3 | exact g4 | exact g5 | exact g6); conv => whnf)
                  | ((refine ext_from (by rfl) from_n from_f ?_); conv => whnf)
                  | fail)
                exact ⟨5 - (i + 1), by omega, Into.weak [0, 1, 2, 3, 4] [(5, .a (.ptr 1 0)), (7, .a (.ptr 2 0)), (10, .a (.flt .f64 now)), (11, .a (.slc 3 0 5 cp)), (12, .a (.ptr 4 0)), (13, .a (.int .i64 ((i + 1 : Nat) : Int)))] [.cells cs 73 false, .cells [.slc 0 0 5 5] 68 false, .cells bs 45 false, .cells xs 3 false, .cells ss2 45 false] ⟨i + 1, _, ss2, by omega, rfl, hss2, by rw [List.length_set]; exact hSl, hSv2, rfl, rfl⟩ ⟨rfl, rfl, rfl, rfl, rfl, congrArg (fun z => some (V.a (.int .i64 z))) hw, trivial⟩ ⟨ren_pl hp _ _ _, rfl, ren_pl hb _ _ _, ren_pl hq _ _ _, ren_pl hs2 _ _ _, trivial⟩ (by simp [nodupb, baseb, Ob.okb, frmOk, V.okb, A.okb, hp.2, hb.2, hq.2, hs2.2] <;> decide)⟩
              · rw [l2]
                conv => whnf
                repeat' (first
                  | rw [← hz6]
                  | rw [← hz7]
                  | ((with_reducible refine regx_of ?_ ?_); (· decide +kernel); conv => whnf)
                  | ((with_reducible refine growx_pre ?_ ?_); (· exact ⟨_, rfl⟩); conv => whnf)
                  | ((with_reducible refine needm_of ?_ ?_); (· first | assumption | exact decide_eq_true (by omega) | exact mkOK_of (by decide) | decide +kernel | (refine decide_eq_true ?_; simp (disch := omega) only [i64w]; omega)); conv => whnf)
                  | ((with_reducible refine condm_pos ?_ ?_); (· assumption); conv => whnf)
                  | ((with_reducible refine condm_neg ?_ ?_); (· assumption); conv => whnf)
                  | ((with_reducible refine forceL_fv (by assumption) ?_); conv => whnf)
                  | ((with_reducible refine forceL_rfv (by assumption) ?_); conv => whnf)
                  | ((with_reducible refine forceNm_of ?_); conv => whnf)
                  | ((with_reducible refine needm_of (fv_lenL (by assumption) (by assumption)) ?_); conv => whnf)
                  | ((with_reducible refine optm_var (fv_strL (by assumption) (by assumption)) (fun s hs => ?_)); conv => whnf)
                  | ((with_reducible refine forceA_of ?_); conv => whnf)
                  | ((with_reducible refine forceL_pl (by assumption) ?_); conv => whnf)
                  | ((with_reducible refine forceL_rpl (by assumption) ?_); conv => whnf)
                  | (refine ⟨st, hsl, ld, ?_⟩; conv => whnf)
                  | ((with_reducible refine needm_of ?_ ?_); (· first | (rw [hsl, hzl]; rfl) | (rw [hsl]; rfl) | (rw [hzl]; rfl)); conv => whnf)
                  | ((with_reducible refine forceL_to (whole_of ?_) ?_); (· rw [hsl]; rfl); conv => whnf)
                  | ((with_reducible refine forceL_to (store_all ?_) ?_); (· rw [hsl, hzl]); conv => whnf)
                  | ((with_reducible apply optm_of); (· first | exact g0 | exact g1 | exact g2 | exact g3 | exact g4 | exact g5 | exact g6); conv => whnf)
                  | ((refine ext_from (by rfl) from_n from_f ?_); conv => whnf)
                  | fail)
                exact ⟨5 - (i + 1), by omega, Into.weak [0, 1, 2, 3, 4] [(5, .a (.ptr 1 0)), (7, .a (.ptr 2 0)), (10, .a (.flt .f64 now)), (11, .a (.slc 3 0 5 cp)), (12, .a (.ptr 4 0)), (13, .a (.int .i64 ((i + 1 : Nat) : Int)))] [.cells cs 73 false, .cells [.slc 0 0 5 5] 68 false, .cells bs 45 false, .cells xs 3 false, .cells ss2 45 false] ⟨i + 1, _, ss2, by omega, rfl, hss2, by rw [List.length_set]; exact hSl, hSv2, rfl, rfl⟩ ⟨rfl, rfl, rfl, rfl, rfl, congrArg (fun z => some (V.a (.int .i64 z))) hw, trivial⟩ ⟨ren_pl hp _ _ _, rfl, ren_pl hb _ _ _, ren_pl hq _ _ _, ren_pl hs2 _ _ _, trivial⟩ (by simp [nodupb, baseb, Ob.okb, frmOk, V.okb, A.okb, hp.2, hb.2, hq.2, hs2.2] <;> decide)⟩
            ·
              conv => whnf
              repeat' (first
                | rw [← hz6]
                | rw [← hz7]
                | ((with_reducible refine regx_of ?_ ?_); (· decide +kernel); conv => whnf)
                | ((with_reducible refine growx_pre ?_ ?_); (· exact ⟨_, rfl⟩); conv => whnf)
                | ((with_reducible refine needm_of ?_ ?_); (· first | assumption | exact decide_eq_true (by omega) | exact mkOK_of (by decide) | decide +kernel | (refine decide_eq_true ?_; simp (disch := omega) only [i64w]; omega)); conv => whnf)
                | ((with_reducible refine condm_pos ?_ ?_); (· assumption); conv => whnf)
                | ((with_reducible refine condm_neg ?_ ?_); (· assumption); conv => whnf)
                | ((with_reducible refine forceL_fv (by assumption) ?_); conv => whnf)
                | ((with_reducible refine forceL_rfv (by assumption) ?_); conv => whnf)
                | ((with_reducible refine forceNm_of ?_); conv => whnf)
                | ((with_reducible refine needm_of (fv_lenL (by assumption) (by assumption)) ?_); conv => whnf)
                | ((with_reducible refine optm_var (fv_strL (by assumption) (by assumption)) (fun s hs => ?_)); conv => whnf)
                | ((with_reducible refine forceA_of ?_); conv => whnf)
                | ((with_reducible refine forceL_pl (by assumption) ?_); conv => whnf)
                | ((with_reducible refine forceL_rpl (by assumption) ?_); conv => whnf)
                | (refine ⟨st, hsl, ld, ?_⟩; conv => whnf)
                | ((with_reducible refine needm_of ?_ ?_); (· first | (rw [hsl, hzl]; rfl) | (rw [hsl]; rfl) | (rw [hzl]; rfl)); conv => whnf)
                | ((with_reducible refine forceL_to (whole_of ?_) ?_); (· rw [hsl]; rfl); conv => whnf)
                | ((with_reducible refine forceL_to (store_all ?_) ?_); (· rw [hsl, hzl]); conv => whnf)
                | ((with_reducible apply optm_of); (· first | exact g0 | exact g1 | exact g2 | exact g3 | exact g4 | exact g5 | exact g6); conv => whnf)
                | ((refine ext_from (by rfl) from_n from_f ?_); conv => whnf)
                | fail)
              exact ⟨5 - (i + 1), by omega, Into.weak [0, 1, 2, 3, 4] [(5, .a (.ptr 1 0)), (7, .a (.ptr 2 0)), (10, .a (.flt .f64 now)), (11, .a (.slc 3 0 5 cp)), (12, .a (.ptr 4 0)), (13, .a (.int .i64 ((i + 1 : Nat) : Int)))] [.cells cs 73 false, .cells [.slc 0 0 5 5] 68 false, .cells bs 45 false, .cells xs 3 false, .cells ss2 45 false] ⟨i + 1, _, ss2, by omega, rfl, hss2, by rw [List.length_set]; exact hSl, hSv2, rfl, rfl⟩ ⟨rfl, rfl, rfl, rfl, rfl, congrArg (fun z => some (V.a (.int .i64 z))) hw, trivial⟩ ⟨ren_pl hp _ _ _, rfl, ren_pl hb _ _ _, ren_pl hq _ _ _, ren_pl hs2 _ _ _, trivial⟩ (by simp [nodupb, baseb, Ob.okb, frmOk, V.okb, A.okb, hp.2, hb.2, hq.2, hs2.2] <;> decide)⟩
          | true =>
            rw [he] at g2
            conv => whnf
            repeat' (first
              | rw [← hz6]
              | rw [← hz7]
              | ((with_reducible refine regx_of ?_ ?_); (· decide +kernel); conv => whnf)
              | ((with_reducible refine growx_pre ?_ ?_); (· exact ⟨_, rfl⟩); conv => whnf)
              | ((with_reducible refine needm_of ?_ ?_); (· first | assumption | exact decide_eq_true (by omega) | exact mkOK_of (by decide) | decide +kernel | (refine decide_eq_true ?_; simp (disch := omega) only [i64w]; omega)); conv => whnf)
              | ((with_reducible refine condm_pos ?_ ?_); (· assumption); conv => whnf)
              | ((with_reducible refine condm_neg ?_ ?_); (· assumption); conv => whnf)
              | ((with_reducible refine forceL_fv (by assumption) ?_); conv => whnf)
              | ((with_reducible refine forceL_rfv (by assumption) ?_); conv => whnf)
              | ((with_reducible refine forceNm_of ?_); conv => whnf)
              | ((with_reducible refine needm_of (fv_lenL (by assumption) (by assumption)) ?_); conv => whnf)
              | ((with_reducible refine optm_var (fv_strL (by assumption) (by assumption)) (fun s hs => ?_)); conv => whnf)
              | ((with_reducible refine forceA_of ?_); conv => whnf)
              | ((with_reducible refine forceL_pl (by assumption) ?_); conv => whnf)
              | ((with_reducible refine forceL_rpl (by assumption) ?_); conv => whnf)
              | (refine ⟨st, hsl, ld, ?_⟩; conv => whnf)
              | ((with_reducible refine needm_of ?_ ?_); (· first | (rw [hsl, hzl]; rfl) | (rw [hsl]; rfl) | (rw [hzl]; rfl)); conv => whnf)
              | ((with_reducible refine forceL_to (whole_of ?_) ?_); (· rw [hsl]; rfl); conv => whnf)
              | ((with_reducible refine forceL_to (store_all ?_) ?_); (· rw [hsl, hzl]); conv => whnf)
              | ((with_reducible apply optm_of); (· first | exact g0 | exact g1 | exact g2 | exact g3 | exact g4 | exact g5 | exact g6); conv => whnf)
              | ((refine ext_from (by rfl) from_n from_f ?_); conv => whnf)
              | fail)
            refine condm_of (fun h0 => ?_) (fun h0 => ?_)
            · have hi0 : 0 < i := by have := of_decide_eq_true h0; omega
              obtain ⟨j, hj⟩ : ∃ j, i = j + 1 := ⟨i - 1, by omega⟩
              obtain ⟨u, hu⟩ : ∃ u, X[j]? = some u := ⟨_, List.getElem?_eq_getElem (by omega)⟩
              have hjw : IntKind.i64.wrap (↑i - 1) = (j : Int) := by rw [i64w (by omega) (by omega)]; omega
              have hbe : before (sk P now) u ((k + 1 : Nat) : Int) := by
                obtain ⟨h1, rfl⟩ := List.getElem?_eq_some_iff.1 hu
                obtain ⟨h2, h3⟩ := List.getElem?_eq_some_iff.1 hv
                have := List.pairwise_iff_getElem.1 hXd j i h1 h2 (by omega)
                rw [h3] at this
                exact this
              have d0 : decide (0 ≤ IntKind.i64.wrap (↑i - 1) ∧ IntKind.i64.wrap (↑i - 1) < 5) = true := by rw [hjw]; exact decide_eq_true (by omega)
              have g3 : xs[0 + (IntKind.i64.wrap (↑i - 1)).toNat * Try.prog.types[3].size]? = some (.int .i64 u) := by
                rw [hjw, s3, Int.toNat_natCast, Nat.zero_add, Nat.mul_one]
                exact i64s_get hxs (by rw [List.getElem?_append_left (by omega)]; exact hu)
              conv => whnf
              repeat' (first
                | rw [← hz6]
                | rw [← hz7]
                | ((with_reducible refine regx_of ?_ ?_); (· decide +kernel); conv => whnf)
                | ((with_reducible refine growx_pre ?_ ?_); (· exact ⟨_, rfl⟩); conv => whnf)
                | ((with_reducible refine needm_of ?_ ?_); (· first | assumption | exact decide_eq_true (by omega) | exact mkOK_of (by decide) | decide +kernel | (refine decide_eq_true ?_; simp (disch := omega) only [i64w]; omega)); conv => whnf)
                | ((with_reducible refine condm_pos ?_ ?_); (· assumption); conv => whnf)
                | ((with_reducible refine condm_neg ?_ ?_); (· assumption); conv => whnf)
                | ((with_reducible refine forceL_fv (by assumption) ?_); conv => whnf)
                | ((with_reducible refine forceL_rfv (by assumption) ?_); conv => whnf)
                | ((with_reducible refine forceNm_of ?_); conv => whnf)
                | ((with_reducible refine needm_of (fv_lenL (by assumption) (by assumption)) ?_); conv => whnf)
                | ((with_reducible refine optm_var (fv_strL (by assumption) (by assumption)) (fun s hs => ?_)); conv => whnf)
                | ((with_reducible refine forceA_of ?_); conv => whnf)
                | ((with_reducible refine forceL_pl (by assumption) ?_); conv => whnf)
                | ((with_reducible refine forceL_rpl (by assumption) ?_); conv => whnf)
                | (refine ⟨st, hsl, ld, ?_⟩; conv => whnf)
                | ((with_reducible refine needm_of ?_ ?_); (· first | (rw [hsl, hzl]; rfl) | (rw [hsl]; rfl) | (rw [hzl]; rfl)); conv => whnf)
                | ((with_reducible refine forceL_to (whole_of ?_) ?_); (· rw [hsl]; rfl); conv => whnf)
                | ((with_reducible refine forceL_to (store_all ?_) ?_); (· rw [hsl, hzl]); conv => whnf)
                | ((with_reducible apply optm_of); (· first | exact g0 | exact g1 | exact g2 | exact g3 | exact g4 | exact g5 | exact g6); conv => whnf)
                | ((refine ext_from (by rfl) from_n from_f ?_); conv => whnf)
                | fail)
              refine Go.Eng.Fn.frame [0, 1] (by rfl) (by exact ⟨ren_pl hp _ _ _, rfl, trivial⟩) (by simp [nodupb, V.okb, A.okb, Ob.okb, hp.2] <;> decide) (score27 P cs 5 false hcs hT.1.symm (by decide) u now (fun q hq2 => ?_))
              have hkq := sk_of hq2
              have l1 : less q t = false := by
                rw [less_key, hkq, hkt]
                rcases hbe with h | ⟨h, _⟩
                · exact kl_asymm h
                · rw [h]; exact kl_irrefl _
              have l2 : less t q = true ∨ (less t q = false ∧ decide (u > ((k + 1 : Nat) : Int)) = false) := by
                rw [less_key, hkq, hkt]
                rcases hbe with h | ⟨h, h'⟩
                · exact .inl h
                · exact .inr ⟨by rw [h]; exact kl_irrefl _, decide_eq_false (by omega)⟩
              conv => whnf
              repeat' (first
                | rw [← hz6]
                | rw [← hz7]
                | ((with_reducible refine regx_of ?_ ?_); (· decide +kernel); conv => whnf)
                | ((with_reducible refine growx_pre ?_ ?_); (· exact ⟨_, rfl⟩); conv => whnf)
                | ((with_reducible refine needm_of ?_ ?_); (· first | assumption | exact decide_eq_true (by omega) | exact mkOK_of (by decide) | decide +kernel | (refine decide_eq_true ?_; simp (disch := omega) only [i64w]; omega)); conv => whnf)
                | ((with_reducible refine condm_pos ?_ ?_); (· assumption); conv => whnf)
                | ((with_reducible refine condm_neg ?_ ?_); (· assumption); conv => whnf)
                | ((with_reducible refine forceL_fv (by assumption) ?_); conv => whnf)
                | ((with_reducible refine forceL_rfv (by assumption) ?_); conv => whnf)
                | ((with_reducible refine forceNm_of ?_); conv => whnf)
                | ((with_reducible refine needm_of (fv_lenL (by assumption) (by assumption)) ?_); conv => whnf)
                | ((with_reducible refine optm_var (fv_strL (by assumption) (by assumption)) (fun s hs => ?_)); conv => whnf)
                | ((with_reducible refine forceA_of ?_); conv => whnf)
                | ((with_reducible refine forceL_pl (by assumption) ?_); conv => whnf)
                | ((with_reducible refine forceL_rpl (by assumption) ?_); conv => whnf)
                | (refine ⟨st, hsl, ld, ?_⟩; conv => whnf)
                | ((with_reducible refine needm_of ?_ ?_); (· first | (rw [hsl, hzl]; rfl) | (rw [hsl]; rfl) | (rw [hzl]; rfl)); conv => whnf)
                | ((with_reducible refine forceL_to (whole_of ?_) ?_); (· rw [hsl]; rfl); conv => whnf)
                | ((with_reducible refine forceL_to (store_all ?_) ?_); (· rw [hsl, hzl]); conv => whnf)
                | ((with_reducible apply optm_of); (· first | exact g0 | exact g1 | exact g2 | exact g3 | exact g4 | exact g5 | exact g6); conv => whnf)
                | ((refine ext_from (by rfl) from_n from_f ?_); conv => whnf)
                | fail)
              refine Go.Eng.Fn.frame [] (by rfl) (by exact trivial) (by rfl) (less11 q t ?_)
              rw [l1]
              conv => whnf
              repeat' (first
                | rw [← hz6]
                | rw [← hz7]
                | ((with_reducible refine regx_of ?_ ?_); (· decide +kernel); conv => whnf)
                | ((with_reducible refine growx_pre ?_ ?_); (· exact ⟨_, rfl⟩); conv => whnf)
                | ((with_reducible refine needm_of ?_ ?_); (· first | assumption | exact decide_eq_true (by omega) | exact mkOK_of (by decide) | decide +kernel | (refine decide_eq_true ?_; simp (disch := omega) only [i64w]; omega)); conv => whnf)
                | ((with_reducible refine condm_pos ?_ ?_); (· assumption); conv => whnf)
                | ((with_reducible refine condm_neg ?_ ?_); (· assumption); conv => whnf)
                | ((with_reducible refine forceL_fv (by assumption) ?_); conv => whnf)
                | ((with_reducible refine forceL_rfv (by assumption) ?_); conv => whnf)
                | ((with_reducible refine forceNm_of ?_); conv => whnf)
                | ((with_reducible refine needm_of (fv_lenL (by assumption) (by assumption)) ?_); conv => whnf)
                | ((with_reducible refine optm_var (fv_strL (by assumption) (by assumption)) (fun s hs => ?_)); conv => whnf)
                | ((with_reducible refine forceA_of ?_); conv => whnf)
                | ((with_reducible refine forceL_pl (by assumption) ?_); conv => whnf)
                | ((with_reducible refine forceL_rpl (by assumption) ?_); conv => whnf)
                | (refine ⟨st, hsl, ld, ?_⟩; conv => whnf)
                | ((with_reducible refine needm_of ?_ ?_); (· first | (rw [hsl, hzl]; rfl) | (rw [hsl]; rfl) | (rw [hzl]; rfl)); conv => whnf)
                | ((with_reducible refine forceL_to (whole_of ?_) ?_); (· rw [hsl]; rfl); conv => whnf)
                | ((with_reducible refine forceL_to (store_all ?_) ?_); (· rw [hsl, hzl]); conv => whnf)
                | ((with_reducible apply optm_of); (· first | exact g0 | exact g1 | exact g2 | exact g3 | exact g4 | exact g5 | exact g6); conv => whnf)
                | ((refine ext_from (by rfl) from_n from_f ?_); conv => whnf)
                | fail)
              refine Go.Eng.Fn.frame [] (by rfl) (by exact trivial) (by rfl) (less11 t q ?_)
              rcases l2 with l2 | ⟨l2, l3⟩
              · rw [l2]
                conv => whnf
                repeat' (first
                  | rw [← hz6]
                  | rw [← hz7]
                  | ((with_reducible refine regx_of ?_ ?_); (· decide +kernel); conv => whnf)
                  | ((with_reducible refine growx_pre ?_ ?_); (· exact ⟨_, rfl⟩); conv => whnf)
                  | ((with_reducible refine needm_of ?_ ?_); (· first | assumption | exact decide_eq_true (by omega) | exact mkOK_of (by decide) | decide +kernel | (refine decide_eq_true ?_; simp (disch := omega) only [i64w]; omega)); conv => whnf)
                  | ((with_reducible refine condm_pos ?_ ?_); (· assumption); conv => whnf)
                  | ((with_reducible refine condm_neg ?_ ?_); (· assumption); conv => whnf)
                  | ((with_reducible refine forceL_fv (by assumption) ?_); conv => whnf)
                  | ((with_reducible refine forceL_rfv (by assumption) ?_); conv => whnf)
                  | ((with_reducible refine forceNm_of ?_); conv => whnf)
                  | ((with_reducible refine needm_of (fv_lenL (by assumption) (by assumption)) ?_); conv => whnf)
                  | ((with_reducible refine optm_var (fv_strL (by assumption) (by assumption)) (fun s hs => ?_)); conv => whnf)
                  | ((with_reducible refine forceA_of ?_); conv => whnf)
                  | ((with_reducible refine forceL_pl (by assumption) ?_); conv => whnf)
                  | ((with_reducible refine forceL_rpl (by assumption) ?_); conv => whnf)
                  | (refine ⟨st, hsl, ld, ?_⟩; conv => whnf)
                  | ((with_reducible refine needm_of ?_ ?_); (· first | (rw [hsl, hzl]; rfl) | (rw [hsl]; rfl) | (rw [hzl]; rfl)); conv => whnf)
                  | ((with_reducible refine forceL_to (whole_of ?_) ?_); (· rw [hsl]; rfl); conv => whnf)
                  | ((with_reducible refine forceL_to (store_all ?_) ?_); (· rw [hsl, hzl]); conv => whnf)
                  | ((with_reducible apply optm_of); (· first | exact g0 | exact g1 | exact g2 | exact g3 | exact g4 | exact g5 | exact g6); conv => whnf)
                  | ((refine ext_from (by rfl) from_n from_f ?_); conv => whnf)
                  | fail)
                exact ⟨5 - (i + 1), by omega, Into.weak [0, 1, 2, 3, 4] [(5, .a (.ptr 1 0)), (7, .a (.ptr 2 0)), (10, .a (.flt .f64 now)), (11, .a (.slc 3 0 5 cp)), (12, .a (.ptr 4 0)), (13, .a (.int .i64 ((i + 1 : Nat) : Int)))] [.cells cs 73 false, .cells [.slc 0 0 5 5] 68 false, .cells bs 45 false, .cells xs 3 false, .cells ss2 45 false] ⟨i + 1, _, ss2, by omega, rfl, hss2, by rw [List.length_set]; exact hSl, hSv2, rfl, rfl⟩ ⟨rfl, rfl, rfl, rfl, rfl, congrArg (fun z => some (V.a (.int .i64 z))) hw, trivial⟩ ⟨ren_pl hp _ _ _, rfl, ren_pl hb _ _ _, ren_pl hq _ _ _, ren_pl hs2 _ _ _, trivial⟩ (by simp [nodupb, baseb, Ob.okb, frmOk, V.okb, A.okb, hp.2, hb.2, hq.2, hs2.2] <;> decide)⟩
              · rw [l2]
                conv => whnf
                repeat' (first
                  | rw [← hz6]
                  | rw [← hz7]
                  | ((with_reducible refine regx_of ?_ ?_); (· decide +kernel); conv => whnf)
                  | ((with_reducible refine growx_pre ?_ ?_); (· exact ⟨_, rfl⟩); conv => whnf)
                  | ((with_reducible refine needm_of ?_ ?_); (· first | assumption | exact decide_eq_true (by omega) | exact mkOK_of (by decide) | decide +kernel | (refine decide_eq_true ?_; simp (disch := omega) only [i64w]; omega)); conv => whnf)
                  | ((with_reducible refine condm_pos ?_ ?_); (· assumption); conv => whnf)
                  | ((with_reducible refine condm_neg ?_ ?_); (· assumption); conv => whnf)
                  | ((with_reducible refine forceL_fv (by assumption) ?_); conv => whnf)
                  | ((with_reducible refine forceL_rfv (by assumption) ?_); conv => whnf)
                  | ((with_reducible refine forceNm_of ?_); conv => whnf)
                  | ((with_reducible refine needm_of (fv_lenL (by assumption) (by assumption)) ?_); conv => whnf)
                  | ((with_reducible refine optm_var (fv_strL (by assumption) (by assumption)) (fun s hs => ?_)); conv => whnf)
                  | ((with_reducible refine forceA_of ?_); conv => whnf)
                  | ((with_reducible refine forceL_pl (by assumption) ?_); conv => whnf)
                  | ((with_reducible refine forceL_rpl (by assumption) ?_); conv => whnf)
                  | (refine ⟨st, hsl, ld, ?_⟩; conv => whnf)
                  | ((with_reducible refine needm_of ?_ ?_); (· first | (rw [hsl, hzl]; rfl) | (rw [hsl]; rfl) | (rw [hzl]; rfl)); conv => whnf)
                  | ((with_reducible refine forceL_to (whole_of ?_) ?_); (· rw [hsl]; rfl); conv => whnf)
                  | ((with_reducible refine forceL_to (store_all ?_) ?_); (· rw [hsl, hzl]); conv => whnf)
                  | ((with_reducible apply optm_of); (· first | exact g0 | exact g1 | exact g2 | exact g3 | exact g4 | exact g5 | exact g6); conv => whnf)
                  | ((refine ext_from (by rfl) from_n from_f ?_); conv => whnf)
                  | fail)
                exact ⟨5 - (i + 1), by omega, Into.weak [0, 1, 2, 3, 4] [(5, .a (.ptr 1 0)), (7, .a (.ptr 2 0)), (10, .a (.flt .f64 now)), (11, .a (.slc 3 0 5 cp)), (12, .a (.ptr 4 0)), (13, .a (.int .i64 ((i + 1 : Nat) : Int)))] [.cells cs 73 false, .cells [.slc 0 0 5 5] 68 false, .cells bs 45 false, .cells xs 3 false, .cells ss2 45 false] ⟨i + 1, _, ss2, by omega, rfl, hss2, by rw [List.length_set]; exact hSl, hSv2, rfl, rfl⟩ ⟨rfl, rfl, rfl, rfl, rfl, congrArg (fun z => some (V.a (.int .i64 z))) hw, trivial⟩ ⟨ren_pl hp _ _ _, rfl, ren_pl hb _ _ _, ren_pl hq _ _ _, ren_pl hs2 _ _ _, trivial⟩ (by simp [nodupb, baseb, Ob.okb, frmOk, V.okb, A.okb, hp.2, hb.2, hq.2, hs2.2] <;> decide)⟩
            ·
              conv => whnf
              repeat' (first
                | rw [← hz6]
                | rw [← hz7]
                | ((with_reducible refine regx_of ?_ ?_); (· decide +kernel); conv => whnf)
                | ((with_reducible refine growx_pre ?_ ?_); (· exact ⟨_, rfl⟩); conv => whnf)
                | ((with_reducible refine needm_of ?_ ?_); (· first | assumption | exact decide_eq_true (by omega) | exact mkOK_of (by decide) | decide +kernel | (refine decide_eq_true ?_; simp (disch := omega) only [i64w]; omega)); conv => whnf)
                | ((with_reducible refine condm_pos ?_ ?_); (· assumption); conv => whnf)
                | ((with_reducible refine condm_neg ?_ ?_); (· assumption); conv => whnf)
                | ((with_reducible refine forceL_fv (by assumption) ?_); conv => whnf)
                | ((with_reducible refine forceL_rfv (by assumption) ?_); conv => whnf)
                | ((with_reducible refine forceNm_of ?_); conv => whnf)
                | ((with_reducible refine needm_of (fv_lenL (by assumption) (by assumption)) ?_); conv => whnf)
                | ((with_reducible refine optm_var (fv_strL (by assumption) (by assumption)) (fun s hs => ?_)); conv => whnf)
                | ((with_reducible refine forceA_of ?_); conv => whnf)
                | ((with_reducible refine forceL_pl (by assumption) ?_); conv => whnf)
                | ((with_reducible refine forceL_rpl (by assumption) ?_); conv => whnf)
                | (refine ⟨st, hsl, ld, ?_⟩; conv => whnf)
                | ((with_reducible refine needm_of ?_ ?_); (· first | (rw [hsl, hzl]; rfl) | (rw [hsl]; rfl) | (rw [hzl]; rfl)); conv => whnf)
                | ((with_reducible refine forceL_to (whole_of ?_) ?_); (· rw [hsl]; rfl); conv => whnf)
                | ((with_reducible refine forceL_to (store_all ?_) ?_); (· rw [hsl, hzl]); conv => whnf)
                | ((with_reducible apply optm_of); (· first | exact g0 | exact g1 | exact g2 | exact g3 | exact g4 | exact g5 | exact g6); conv => whnf)
                | ((refine ext_from (by rfl) from_n from_f ?_); conv => whnf)
                | fail)
              exact ⟨5 - (i + 1), by omega, Into.weak [0, 1, 2, 3, 4] [(5, .a (.ptr 1 0)), (7, .a (.ptr 2 0)), (10, .a (.flt .f64 now)), (11, .a (.slc 3 0 5 cp)), (12, .a (.ptr 4 0)), (13, .a (.int .i64 ((i + 1 : Nat) : Int)))] [.cells cs 73 false, .cells [.slc 0 0 5 5] 68 false, .cells bs 45 false, .cells xs 3 false, .cells ss2 45 false] ⟨i + 1, _, ss2, by omega, rfl, hss2, by rw [List.length_set]; exact hSl, hSv2, rfl, rfl⟩ ⟨rfl, rfl, rfl, rfl, rfl, congrArg (fun z => some (V.a (.int .i64 z))) hw, trivial⟩ ⟨ren_pl hp _ _ _, rfl, ren_pl hb _ _ _, ren_pl hq _ _ _, ren_pl hs2 _ _ _, trivial⟩ (by simp [nodupb, baseb, Ob.okb, frmOk, V.okb, A.okb, hp.2, hb.2, hq.2, hs2.2] <;> decide)⟩
        ·
          conv => whnf
          repeat' (first
            | rw [← hz6]
            | rw [← hz7]
            | ((with_reducible refine regx_of ?_ ?_); (· decide +kernel); conv => whnf)
            | ((with_reducible refine growx_pre ?_ ?_); (· exact ⟨_, rfl⟩); conv => whnf)
            | ((with_reducible refine needm_of ?_ ?_); (· first | assumption | exact decide_eq_true (by omega) | exact mkOK_of (by decide) | decide +kernel | (refine decide_eq_true ?_; simp (disch := omega) only [i64w]; omega)); conv => whnf)
            | ((with_reducible refine condm_pos ?_ ?_); (· assumption); conv => whnf)
            | ((with_reducible refine condm_neg ?_ ?_); (· assumption); conv => whnf)
            | ((with_reducible refine forceL_fv (by assumption) ?_); conv => whnf)
            | ((with_reducible refine forceL_rfv (by assumption) ?_); conv => whnf)
            | ((with_reducible refine forceNm_of ?_); conv => whnf)
            | ((with_reducible refine needm_of (fv_lenL (by assumption) (by assumption)) ?_); conv => whnf)
            | ((with_reducible refine optm_var (fv_strL (by assumption) (by assumption)) (fun s hs => ?_)); conv => whnf)
            | ((with_reducible refine forceA_of ?_); conv => whnf)
            | ((with_reducible refine forceL_pl (by assumption) ?_); conv => whnf)
            | ((with_reducible refine forceL_rpl (by assumption) ?_); conv => whnf)
            | (refine ⟨st, hsl, ld, ?_⟩; conv => whnf)
            | ((with_reducible refine needm_of ?_ ?_); (· first | (rw [hsl, hzl]; rfl) | (rw [hsl]; rfl) | (rw [hzl]; rfl)); conv => whnf)
            | ((with_reducible refine forceL_to (whole_of ?_) ?_); (· rw [hsl]; rfl); conv => whnf)
            | ((with_reducible refine forceL_to (store_all ?_) ?_); (· rw [hsl, hzl]); conv => whnf)
            | ((with_reducible apply optm_of); (· first | exact g0 | exact g1 | exact g2 | exact g3 | exact g4 | exact g5 | exact g6); conv => whnf)
            | ((refine ext_from (by rfl) from_n from_f ?_); conv => whnf)
            | fail)
set_option maxHeartbeats 2000000 in
theorem order_nil (W : World) (now : Nat) : Go.Eng.Fn Try.prog (roOf W) 7 [.a .nils, .a (.int .u64 now)] [] (fun v _ => v = .a (.bool true)) := by
  obtain ⟨z6, hz6⟩ : ∃ z : List A, z = [.bool false, .bool false, .bool false, .bool false, .bool false, .bool false] := ⟨_, rfl⟩
  have hz6p : Pl z6 := by rw [hz6]; exact ⟨fun _ => rfl, fun _ => rfl⟩
  have hz6b : z6 = bls (List.replicate 6 false) := by rw [hz6]; unfold bls; rfl
  refine Go.Eng.Fn.of_code h7' Try.func7 rfl (Nat.le_of_ble_eq_true rfl) ?_
  conv => whnf
  repeat' (first
    | rw [← hz6]
    | rw [← hz7]
    | ((with_reducible refine regx_of ?_ ?_); (· decide +kernel); conv => whnf)
    | ((with_reducible refine growx_pre ?_ ?_); (· exact ⟨_, rfl⟩); conv => whnf)
    | ((with_reducible refine needm_of ?_ ?_); (· first | assumption | exact decide_eq_true (by omega) | exact mkOK_of (by decide) | decide +kernel | (refine decide_eq_true ?_; simp (disch := omega) only [i64w]; omega)); conv => whnf)
    | ((with_reducible refine condm_pos ?_ ?_); (· assumption); conv => whnf)
    | ((with_reducible refine condm_neg ?_ ?_); (· assumption); conv => whnf)
    | ((with_reducible refine forceL_fv (by assumption) ?_); conv => whnf)
    | ((with_reducible refine forceL_rfv (by assumption) ?_); conv => whnf)
    | ((with_reducible refine forceNm_of ?_); conv => whnf)
    | ((with_reducible refine needm_of (fv_lenL (by assumption) (by assumption)) ?_); conv => whnf)
    | ((with_reducible refine optm_var (fv_strL (by assumption) (by assumption)) (fun s hs => ?_)); conv => whnf)
    | ((with_reducible refine forceA_of ?_); conv => whnf)
    | ((with_reducible refine forceL_pl (by assumption) ?_); conv => whnf)
    | ((with_reducible refine forceL_rpl (by assumption) ?_); conv => whnf)
    | (refine ⟨st, hsl, ld, ?_⟩; conv => whnf)
    | ((with_reducible refine needm_of ?_ ?_); (· first | (rw [hsl, hzl]; rfl) | (rw [hsl]; rfl) | (rw [hzl]; rfl)); conv => whnf)
    | ((with_reducible refine forceL_to (whole_of ?_) ?_); (· rw [hsl]; rfl); conv => whnf)
    | ((with_reducible refine forceL_to (store_all ?_) ?_); (· rw [hsl, hzl]); conv => whnf)
    | ((with_reducible apply optm_of); (· first | exact g0 | exact g1 | exact g2 | exact g3 | exact g4 | exact g5 | exact g6); conv => whnf)
    | ((refine ext_from (by rfl) from_n from_f ?_); conv => whnf)
    | fail)
  refine Go.Eng.Fn.frame [] (by rfl) (by exact trivial) (by rfl) (works18 ?_)
  conv => whnf
  repeat' (first
    | rw [← hz6]
    | rw [← hz7]
    | ((with_reducible refine regx_of ?_ ?_); (· decide +kernel); conv => whnf)
    | ((with_reducible refine growx_pre ?_ ?_); (· exact ⟨_, rfl⟩); conv => whnf)
    | ((with_reducible refine needm_of ?_ ?_); (· first | assumption | exact decide_eq_true (by omega) | exact mkOK_of (by decide) | decide +kernel | (refine decide_eq_true ?_; simp (disch := omega) only [i64w]; omega)); conv => whnf)
    | ((with_reducible refine condm_pos ?_ ?_); (· assumption); conv => whnf)
    | ((with_reducible refine condm_neg ?_ ?_); (· assumption); conv => whnf)
    | ((with_reducible refine forceL_fv (by assumption) ?_); conv => whnf)
    | ((with_reducible refine forceL_rfv (by assumption) ?_); conv => whnf)
    | ((with_reducible refine forceNm_of ?_); conv => whnf)
    | ((with_reducible refine needm_of (fv_lenL (by assumption) (by assumption)) ?_); conv => whnf)
    | ((with_reducible refine optm_var (fv_strL (by assumption) (by assumption)) (fun s hs => ?_)); conv => whnf)
    | ((with_reducible refine forceA_of ?_); conv => whnf)
    | ((with_reducible refine forceL_pl (by assumption) ?_); conv => whnf)
    | ((with_reducible refine forceL_rpl (by assumption) ?_); conv => whnf)
    | (refine ⟨st, hsl, ld, ?_⟩; conv => whnf)
    | ((with_reducible refine needm_of ?_ ?_); (· first | (rw [hsl, hzl]; rfl) | (rw [hsl]; rfl) | (rw [hzl]; rfl)); conv => whnf)
    | ((with_reducible refine forceL_to (whole_of ?_) ?_); (· rw [hsl]; rfl); conv => whnf)
    | ((with_reducible refine forceL_to (store_all ?_) ?_); (· rw [hsl, hzl]); conv => whnf)
    | ((with_reducible apply optm_of); (· first | exact g0 | exact g1 | exact g2 | exact g3 | exact g4 | exact g5 | exact g6); conv => whnf)
    | ((refine ext_from (by rfl) from_n from_f ?_); conv => whnf)
    | fail)
  refine Go.Eng.Fn.frame [] (by rfl) (by exact trivial) (by rfl) (new19 5 (by decide) (by decide) (fun cs hcs => ?_))
  have hp := Pl.prow hcs
  have hT := Told.zero
  generalize List.replicate 5 p0 = P at *
  conv => whnf
  repeat' (first
    | rw [← hz6]
    | rw [← hz7]
    | ((with_reducible refine regx_of ?_ ?_); (· decide +kernel); conv => whnf)
    | ((with_reducible refine growx_pre ?_ ?_); (· exact ⟨_, rfl⟩); conv => whnf)
    | ((with_reducible refine needm_of ?_ ?_); (· first | assumption | exact decide_eq_true (by omega) | exact mkOK_of (by decide) | decide +kernel | (refine decide_eq_true ?_; simp (disch := omega) only [i64w]; omega)); conv => whnf)
    | ((with_reducible refine condm_pos ?_ ?_); (· assumption); conv => whnf)
    | ((with_reducible refine condm_neg ?_ ?_); (· assumption); conv => whnf)
    | ((with_reducible refine forceL_fv (by assumption) ?_); conv => whnf)
    | ((with_reducible refine forceL_rfv (by assumption) ?_); conv => whnf)
    | ((with_reducible refine forceNm_of ?_); conv => whnf)
    | ((with_reducible refine needm_of (fv_lenL (by assumption) (by assumption)) ?_); conv => whnf)
    | ((with_reducible refine optm_var (fv_strL (by assumption) (by assumption)) (fun s hs => ?_)); conv => whnf)
    | ((with_reducible refine forceA_of ?_); conv => whnf)
    | ((with_reducible refine forceL_pl (by assumption) ?_); conv => whnf)
    | ((with_reducible refine forceL_rpl (by assumption) ?_); conv => whnf)
    | (refine ⟨st, hsl, ld, ?_⟩; conv => whnf)
    | ((with_reducible refine needm_of ?_ ?_); (· first | (rw [hsl, hzl]; rfl) | (rw [hsl]; rfl) | (rw [hzl]; rfl)); conv => whnf)
    | ((with_reducible refine forceL_to (whole_of ?_) ?_); (· rw [hsl]; rfl); conv => whnf)
    | ((with_reducible refine forceL_to (store_all ?_) ?_); (· rw [hsl, hzl]); conv => whnf)
    | ((with_reducible apply optm_of); (· first | exact g0 | exact g1 | exact g2 | exact g3 | exact g4 | exact g5 | exact g6); conv => whnf)
    | ((refine ext_from (by rfl) from_n from_f ?_); conv => whnf)
    | fail)
  obtain ⟨bs, hbs0⟩ : ∃ bs, bs = z6 := ⟨_, rfl⟩
  have hbs := hz6b
  rw [← hbs0] at hbs
  generalize List.replicate 6 false = B at hT hbs
  have hb := Pl.bl hbs
  rw [← hbs0]
  refine loopx_iter 1 ?_
  conv => whnf
  repeat' (first
    | rw [← hz6]
    | rw [← hz7]
    | ((with_reducible refine regx_of ?_ ?_); (· decide +kernel); conv => whnf)
    | ((with_reducible refine growx_pre ?_ ?_); (· exact ⟨_, rfl⟩); conv => whnf)
    | ((with_reducible refine needm_of ?_ ?_); (· first | assumption | exact decide_eq_true (by omega) | exact mkOK_of (by decide) | decide +kernel | (refine decide_eq_true ?_; simp (disch := omega) only [i64w]; omega)); conv => whnf)
    | ((with_reducible refine condm_pos ?_ ?_); (· assumption); conv => whnf)
    | ((with_reducible refine condm_neg ?_ ?_); (· assumption); conv => whnf)
    | ((with_reducible refine forceL_fv (by assumption) ?_); conv => whnf)
    | ((with_reducible refine forceL_rfv (by assumption) ?_); conv => whnf)
    | ((with_reducible refine forceNm_of ?_); conv => whnf)
    | ((with_reducible refine needm_of (fv_lenL (by assumption) (by assumption)) ?_); conv => whnf)
    | ((with_reducible refine optm_var (fv_strL (by assumption) (by assumption)) (fun s hs => ?_)); conv => whnf)
    | ((with_reducible refine forceA_of ?_); conv => whnf)
    | ((with_reducible refine forceL_pl (by assumption) ?_); conv => whnf)
    | ((with_reducible refine forceL_rpl (by assumption) ?_); conv => whnf)
    | (refine ⟨st, hsl, ld, ?_⟩; conv => whnf)
    | ((with_reducible refine needm_of ?_ ?_); (· first | (rw [hsl, hzl]; rfl) | (rw [hsl]; rfl) | (rw [hzl]; rfl)); conv => whnf)
    | ((with_reducible refine forceL_to (whole_of ?_) ?_); (· rw [hsl]; rfl); conv => whnf)
    | ((with_reducible refine forceL_to (store_all ?_) ?_); (· rw [hsl, hzl]); conv => whnf)
    | ((with_reducible apply optm_of); (· first | exact g0 | exact g1 | exact g2 | exact g3 | exact g4 | exact g5 | exact g6); conv => whnf)
    | ((refine ext_from (by rfl) from_n from_f ?_); conv => whnf)
    | fail)
  rw [Int.toNat_natCast]
  refine Go.Eng.Fn.frame [0, 1] (by rfl) (by exact ⟨ren_pl hp _ _ _, rfl, trivial⟩) (by simp [nodupb, V.okb, A.okb, Ob.okb, hp.2] <;> decide) (order26 P cs 5 false hcs hT.1.symm (by decide) (by decide) now (fun X Y xs cp hS hxs hcp => ?_))
  have hq := Pl.i64 hxs
  have hXl : X.length = 5 := by simpa using hS.len
  have hXp : X.Perm (upTo 5) := by simpa using hS.perm
  have hXn : X.Nodup := hXp.nodup_iff.2 (by decide)
  have hXm : ∀ v ∈ X, 1 ≤ v ∧ v ≤ 5 := fun v hv => by
    have := hXp.subset hv
    simp [upTo, List.range_succ] at this
    omega
  have hXd := hS.done
  conv => whnf
  repeat' (first
    | rw [← hz6]
    | rw [← hz7]
    | ((with_reducible refine regx_of ?_ ?_); (· decide +kernel); conv => whnf)
    | ((with_reducible refine growx_pre ?_ ?_); (· exact ⟨_, rfl⟩); conv => whnf)
    | ((with_reducible refine needm_of ?_ ?_); (· first | assumption | exact decide_eq_true (by omega) | exact mkOK_of (by decide) | decide +kernel | (refine decide_eq_true ?_; simp (disch := omega) only [i64w]; omega)); conv => whnf)
    | ((with_reducible refine condm_pos ?_ ?_); (· assumption); conv => whnf)
    | ((with_reducible refine condm_neg ?_ ?_); (· assumption); conv => whnf)
    | ((with_reducible refine forceL_fv (by assumption) ?_); conv => whnf)
    | ((with_reducible refine forceL_rfv (by assumption) ?_); conv => whnf)
    | ((with_reducible refine forceNm_of ?_); conv => whnf)
    | ((with_reducible refine needm_of (fv_lenL (by assumption) (by assumption)) ?_); conv => whnf)
    | ((with_reducible refine optm_var (fv_strL (by assumption) (by assumption)) (fun s hs => ?_)); conv => whnf)
    | ((with_reducible refine forceA_of ?_); conv => whnf)
    | ((with_reducible refine forceL_pl (by assumption) ?_); conv => whnf)
    | ((with_reducible refine forceL_rpl (by assumption) ?_); conv => whnf)
    | (refine ⟨st, hsl, ld, ?_⟩; conv => whnf)
    | ((with_reducible refine needm_of ?_ ?_); (· first | (rw [hsl, hzl]; rfl) | (rw [hsl]; rfl) | (rw [hzl]; rfl)); conv => whnf)
    | ((with_reducible refine forceL_to (whole_of ?_) ?_); (· rw [hsl]; rfl); conv => whnf)
    | ((with_reducible refine forceL_to (store_all ?_) ?_); (· rw [hsl, hzl]); conv => whnf)
    | ((with_reducible apply optm_of); (· first | exact g0 | exact g1 | exact g2 | exact g3 | exact g4 | exact g5 | exact g6); conv => whnf)
    | ((refine ext_from (by rfl) from_n from_f ?_); conv => whnf)
    | fail)
  refine loopx_of (fun m F H => ∃ (i : Nat) (S : List Bool) (ss : List A), i ≤ 5 ∧ m = 5 - i ∧ ss = bls S ∧ S.length = 6 ∧ (∀ v : Nat, v < 6 → S[v]? = some (decide ((v : Int) ∈ X.take i))) ∧ F = [(5, .a (.ptr 1 0)), (7, .a (.ptr 2 0)), (10, .a (.flt .f64 now)), (11, .a (.slc 3 0 5 cp)), (12, .a (.ptr 4 0)), (13, .a (.int .i64 i))] ∧ H = [.cells cs 73 false, .cells [.slc 0 0 5 5] 68 false, .cells bs 45 false, .cells xs 3 false, .cells ss 45 false]) 5 ?_ ?_
  · exact Into.weak [0, 1, 2, 3, 4] [(5, .a (.ptr 1 0)), (7, .a (.ptr 2 0)), (10, .a (.flt .f64 now)), (11, .a (.slc 3 0 5 cp)), (12, .a (.ptr 4 0)), (13, .a (.int .i64 (0 : Nat)))] [.cells cs 73 false, .cells [.slc 0 0 5 5] 68 false, .cells bs 45 false, .cells xs 3 false, .cells z6 45 false] ⟨0, _, z6, by omega, rfl, hz6b, by simp, fun v hv => by rw [List.getElem?_replicate, if_pos hv]; simp, rfl, rfl⟩ ⟨rfl, rfl, rfl, rfl, rfl, rfl, trivial⟩ ⟨ren_pl hp _ _ _, rfl, ren_pl hb _ _ _, ren_pl hq _ _ _, ren_pl hz6p _ _ _, trivial⟩ (by simp [nodupb, baseb, Ob.okb, frmOk, V.okb, A.okb, hp.2, hb.2, hq.2, hz6p.2] <;> decide)
  · skip
    rintro m F H ⟨i, S, ss, hi, rfl, hss, hSl, hSv, rfl, rfl⟩
    have hs := Pl.bl hss
    conv => whnf
    repeat' (first
      | rw [← hz6]
      | rw [← hz7]
      | ((with_reducible refine regx_of ?_ ?_); (· decide +kernel); conv => whnf)
      | ((with_reducible refine growx_pre ?_ ?_); (· exact ⟨_, rfl⟩); conv => whnf)
      | ((with_reducible refine needm_of ?_ ?_); (· first | assumption | exact decide_eq_true (by omega) | exact mkOK_of (by decide) | decide +kernel | (refine decide_eq_true ?_; simp (disch := omega) only [i64w]; omega)); conv => whnf)
      | ((with_reducible refine condm_pos ?_ ?_); (· assumption); conv => whnf)
      | ((with_reducible refine condm_neg ?_ ?_); (· assumption); conv => whnf)
      | ((with_reducible refine forceL_fv (by assumption) ?_); conv => whnf)
      | ((with_reducible refine forceL_rfv (by assumption) ?_); conv => whnf)
      | ((with_reducible refine forceNm_of ?_); conv => whnf)
      | ((with_reducible refine needm_of (fv_lenL (by assumption) (by assumption)) ?_); conv => whnf)
      | ((with_reducible refine optm_var (fv_strL (by assumption) (by assumption)) (fun s hs => ?_)); conv => whnf)
      | ((with_reducible refine forceA_of ?_); conv => whnf)
      | ((with_reducible refine forceL_pl (by assumption) ?_); conv => whnf)
      | ((with_reducible refine forceL_rpl (by assumption) ?_); conv => whnf)
      | (refine ⟨st, hsl, ld, ?_⟩; conv => whnf)
      | ((with_reducible refine needm_of ?_ ?_); (· first | (rw [hsl, hzl]; rfl) | (rw [hsl]; rfl) | (rw [hzl]; rfl)); conv => whnf)
      | ((with_reducible refine forceL_to (whole_of ?_) ?_); (· rw [hsl]; rfl); conv => whnf)
      | ((with_reducible refine forceL_to (store_all ?_) ?_); (· rw [hsl, hzl]); conv => whnf)
      | ((with_reducible apply optm_of); (· first | exact g0 | exact g1 | exact g2 | exact g3 | exact g4 | exact g5 | exact g6); conv => whnf)
      | ((refine ext_from (by rfl) from_n from_f ?_); conv => whnf)
      | fail)
    refine condm_of (fun h => ?_) (fun h => ?_)
    · have hi5 : i < 5 := by have := of_decide_eq_true h; omega
      have hw : IntKind.i64.wrap (↑i + 1) = ((i + 1 : Nat) : Int) := by rw [i64w (by omega) (by omega)]; rfl
      obtain ⟨v, hv⟩ : ∃ v, X[i]? = some v := ⟨_, List.getElem?_eq_getElem (by omega)⟩
      obtain ⟨k, rfl⟩ : ∃ k : Nat, v = ((k + 1 : Nat) : Int) := ⟨(v - 1).toNat, by have := hXm v (List.mem_of_getElem? hv); omega⟩
      have hk5 : k < 5 := by have := hXm _ (List.mem_of_getElem? hv); omega
      obtain ⟨x, hx⟩ : ∃ x, P[k]? = some x := ⟨_, List.getElem?_eq_getElem (by rw [hT.1]; exact hk5)⟩
      have hvX : (X ++ Y)[i]? = some ((k + 1 : Nat) : Int) := by rw [List.getElem?_append_left (by omega)]; exact hv
      have s4 : Try.prog.types[4].size = 1 := rfl
      have g0 : xs[0 + (i : Int).toNat * Try.prog.types[3].size]? = some (.int .i64 ((k + 1 : Nat) : Int)) := by rw [s3, Int.toNat_natCast, Nat.zero_add, Nat.mul_one]; exact i64s_get hxs hvX
      have hno : ((k + 1 : Nat) : Int) ∉ X.take i := fun hm => by
        obtain ⟨j, hj⟩ := List.getElem?_of_mem hm
        rw [List.getElem?_take] at hj
        split at hj
        · have := (List.getElem?_inj (by omega) hXn).1 (hj.trans hv.symm)
          omega
        · cases hj
      have g1 : ss[0 + ((k + 1 : Nat) : Int).toNat * Try.prog.types[4].size]? = some (.bool false) := by
        rw [s4, Int.toNat_natCast, Nat.zero_add, Nat.mul_one]
        exact bls_get hss (by rw [hSv (k + 1) (by omega), decide_eq_false hno])
      have g2 : bs[0 + ((k + 1 : Nat) : Int).toNat * Try.prog.types[4].size]? = some (.bool x.ended) := by
        rw [s4, Int.toNat_natCast, Nat.zero_add, Nat.mul_one]
        exact bls_get hbs (hT.2.2 k x hx)
      have c1 : decide (((k + 1 : Nat) : Int) < 1) = false := decide_eq_false (by omega)
      have c2 : decide (((k + 1 : Nat) : Int) > 5) = false := decide_eq_false (by omega)
      have c3 : decide (0 ≤ ((k + 1 : Nat) : Int) ∧ ((k + 1 : Nat) : Int) < 6) = true := decide_eq_true (by omega)
      conv => whnf
      repeat' (first
        | rw [← hz6]
        | rw [← hz7]
        | ((with_reducible refine regx_of ?_ ?_); (· decide +kernel); conv => whnf)
        | ((with_reducible refine growx_pre ?_ ?_); (· exact ⟨_, rfl⟩); conv => whnf)
        | ((with_reducible refine needm_of ?_ ?_); (· first | assumption | exact decide_eq_true (by omega) | exact mkOK_of (by decide) | decide +kernel | (refine decide_eq_true ?_; simp (disch := omega) only [i64w]; omega)); conv => whnf)
        | ((with_reducible refine condm_pos ?_ ?_); (· assumption); conv => whnf)
        | ((with_reducible refine condm_neg ?_ ?_); (· assumption); conv => whnf)
        | ((with_reducible refine forceL_fv (by assumption) ?_); conv => whnf)
        | ((with_reducible refine forceL_rfv (by assumption) ?_); conv => whnf)
        | ((with_reducible refine forceNm_of ?_); conv => whnf)
        | ((with_reducible refine needm_of (fv_lenL (by assumption) (by assumption)) ?_); conv => whnf)
        | ((with_reducible refine optm_var (fv_strL (by assumption) (by assumption)) (fun s hs => ?_)); conv => whnf)
        | ((with_reducible refine forceA_of ?_); conv => whnf)
        | ((with_reducible refine forceL_pl (by assumption) ?_); conv => whnf)
        | ((with_reducible refine forceL_rpl (by assumption) ?_); conv => whnf)
        | (refine ⟨st, hsl, ld, ?_⟩; conv => whnf)
        | ((with_reducible refine needm_of ?_ ?_); (· first | (rw [hsl, hzl]; rfl) | (rw [hsl]; rfl) | (rw [hzl]; rfl)); conv => whnf)
        | ((with_reducible refine forceL_to (whole_of ?_) ?_); (· rw [hsl]; rfl); conv => whnf)
        | ((with_reducible refine forceL_to (store_all ?_) ?_); (· rw [hsl, hzl]); conv => whnf)
        | ((with_reducible apply optm_of); (· first | exact g0 | exact g1 | exact g2 | exact g3 | exact g4 | exact g5 | exact g6); conv => whnf)
        | ((refine ext_from (by rfl) from_n from_f ?_); conv => whnf)
        | fail)
      have hsl6 : ss.length = 6 := by rw [hss, bls_length]; exact hSl
      refine needm_of (Bool.and_eq_true_iff.2 ⟨rfl, decide_eq_true (by rw [hsl6, s4, Int.toNat_natCast]; show 0 + (k + 1) * 1 + 1 ≤ 6; omega)⟩) ?_
      conv => whnf
      repeat' (first
        | rw [← hz6]
        | rw [← hz7]
        | ((with_reducible refine regx_of ?_ ?_); (· decide +kernel); conv => whnf)
        | ((with_reducible refine growx_pre ?_ ?_); (· exact ⟨_, rfl⟩); conv => whnf)
        | ((with_reducible refine needm_of ?_ ?_); (· first | assumption | exact decide_eq_true (by omega) | exact mkOK_of (by decide) | decide +kernel | (refine decide_eq_true ?_; simp (disch := omega) only [i64w]; omega)); conv => whnf)
        | ((with_reducible refine condm_pos ?_ ?_); (· assumption); conv => whnf)
        | ((with_reducible refine condm_neg ?_ ?_); (· assumption); conv => whnf)
        | ((with_reducible refine forceL_fv (by assumption) ?_); conv => whnf)
        | ((with_reducible refine forceL_rfv (by assumption) ?_); conv => whnf)
        | ((with_reducible refine forceNm_of ?_); conv => whnf)
        | ((with_reducible refine needm_of (fv_lenL (by assumption) (by assumption)) ?_); conv => whnf)
        | ((with_reducible refine optm_var (fv_strL (by assumption) (by assumption)) (fun s hs => ?_)); conv => whnf)
        | ((with_reducible refine forceA_of ?_); conv => whnf)
        | ((with_reducible refine forceL_pl (by assumption) ?_); conv => whnf)
        | ((with_reducible refine forceL_rpl (by assumption) ?_); conv => whnf)
        | (refine ⟨st, hsl, ld, ?_⟩; conv => whnf)
        | ((with_reducible refine needm_of ?_ ?_); (· first | (rw [hsl, hzl]; rfl) | (rw [hsl]; rfl) | (rw [hzl]; rfl)); conv => whnf)
        | ((with_reducible refine forceL_to (whole_of ?_) ?_); (· rw [hsl]; rfl); conv => whnf)
        | ((with_reducible refine forceL_to (store_all ?_) ?_); (· rw [hsl, hzl]); conv => whnf)
        | ((with_reducible apply optm_of); (· first | exact g0 | exact g1 | exact g2 | exact g3 | exact g4 | exact g5 | exact g6); conv => whnf)
        | ((refine ext_from (by rfl) from_n from_f ?_); conv => whnf)
        | fail)
      refine forceL_var (l' := bls (S.set (k + 1) true)) (by rw [s4, Int.toNat_natCast, Nat.zero_add, Nat.mul_one]; exact bls_set hss) (fun ss2 hss2 => ?_)
      have hs2 := Pl.bl hss2
      have hSv2 : ∀ v : Nat, v < 6 → (S.set (k + 1) true)[v]? = some (decide ((v : Int) ∈ X.take (i + 1))) := fun v hv6 => by
        rw [List.getElem?_set, List.take_add_one, hv]
        by_cases e : k + 1 = v
        · subst e
          rw [if_pos rfl, if_pos (by omega)]
          simp
        · rw [if_neg e, hSv v hv6]
          congr 1
          rw [decide_eq_decide]
          simp only [Option.toList_some, List.mem_append, List.mem_singleton]
          constructor
          · exact fun h => .inl h
          · rintro (h | h)
            · exact h
            · omega
      conv => whnf
      repeat' (first
        | rw [← hz6]
        | rw [← hz7]
        | ((with_reducible refine regx_of ?_ ?_); (· decide +kernel); conv => whnf)
        | ((with_reducible refine growx_pre ?_ ?_); (· exact ⟨_, rfl⟩); conv => whnf)
        | ((with_reducible refine needm_of ?_ ?_); (· first | assumption | exact decide_eq_true (by omega) | exact mkOK_of (by decide) | decide +kernel | (refine decide_eq_true ?_; simp (disch := omega) only [i64w]; omega)); conv => whnf)
        | ((with_reducible refine condm_pos ?_ ?_); (· assumption); conv => whnf)
        | ((with_reducible refine condm_neg ?_ ?_); (· assumption); conv => whnf)
        | ((with_reducible refine forceL_fv (by assumption) ?_); conv => whnf)
        | ((with_reducible refine forceL_rfv (by assumption) ?_); conv => whnf)
        | ((with_reducible refine forceNm_of ?_); conv => whnf)
        | ((with_reducible refine needm_of (fv_lenL (by assumption) (by assumption)) ?_); conv => whnf)
        | ((with_reducible refine optm_var (fv_strL (by assumption) (by assumption)) (fun s hs => ?_)); conv => whnf)
        | ((with_reducible refine forceA_of ?_); conv => whnf)
        | ((with_reducible refine forceL_pl (by assumption) ?_); conv => whnf)
        | ((with_reducible refine forceL_rpl (by assumption) ?_); conv => whnf)
        | (refine ⟨st, hsl, ld, ?_⟩; conv => whnf)
        | ((with_reducible refine needm_of ?_ ?_); (· first | (rw [hsl, hzl]; rfl) | (rw [hsl]; rfl) | (rw [hzl]; rfl)); conv => whnf)
        | ((with_reducible refine forceL_to (whole_of ?_) ?_); (· rw [hsl]; rfl); conv => whnf)
        | ((with_reducible refine forceL_to (store_all ?_) ?_); (· rw [hsl, hzl]); conv => whnf)
        | ((with_reducible apply optm_of); (· first | exact g0 | exact g1 | exact g2 | exact g3 | exact g4 | exact g5 | exact g6); conv => whnf)
        | ((refine ext_from (by rfl) from_n from_f ?_); conv => whnf)
        | fail)
      refine Go.Eng.Fn.frame [0, 1] (by rfl) (by exact ⟨ren_pl hp _ _ _, rfl, trivial⟩) (by simp [nodupb, V.okb, A.okb, Ob.okb, hp.2] <;> decide) (score27 P cs 5 false hcs hT.1.symm (by decide) ((k + 1 : Nat) : Int) now (fun t ht => ?_))
      have hsc := scoreA_in (now := now) hx
      have hkt := sk_of ht
      cases he : x.ended with
      | false =>
        rw [he] at g2 hsc
        rw [hsc] at ht
        have htl := ans_lit ht rfl
        have hinf : IsInf t = true := by rw [htl]; unfold IsInf fGtK; decide +kernel
        clear htl
        conv => whnf
        repeat' (first
          | rw [← hz6]
          | rw [← hz7]
          | ((with_reducible refine regx_of ?_ ?_); (· decide +kernel); conv => whnf)
          | ((with_reducible refine growx_pre ?_ ?_); (· exact ⟨_, rfl⟩); conv => whnf)
          | ((with_reducible refine needm_of ?_ ?_); (· first | assumption | exact decide_eq_true (by omega) | exact mkOK_of (by decide) | decide +kernel | (refine decide_eq_true ?_; simp (disch := omega) only [i64w]; omega)); conv => whnf)
          | ((with_reducible refine condm_pos ?_ ?_); (· assumption); conv => whnf)
          | ((with_reducible refine condm_neg ?_ ?_); (· assumption); conv => whnf)
          | ((with_reducible refine forceL_fv (by assumption) ?_); conv => whnf)
          | ((with_reducible refine forceL_rfv (by assumption) ?_); conv => whnf)
          | ((with_reducible refine forceNm_of ?_); conv => whnf)
          | ((with_reducible refine needm_of (fv_lenL (by assumption) (by assumption)) ?_); conv => whnf)
          | ((with_reducible refine optm_var (fv_strL (by assumption) (by assumption)) (fun s hs => ?_)); conv => whnf)
          | ((with_reducible refine forceA_of ?_); conv => whnf)
          | ((with_reducible refine forceL_pl (by assumption) ?_); conv => whnf)
          | ((with_reducible refine forceL_rpl (by assumption) ?_); conv => whnf)
          | (refine ⟨st, hsl, ld, ?_⟩; conv => whnf)
          | ((with_reducible refine needm_of ?_ ?_); (· first | (rw [hsl, hzl]; rfl) | (rw [hsl]; rfl) | (rw [hzl]; rfl)); conv => whnf)
          | ((with_reducible refine forceL_to (whole_of ?_) ?_); (· rw [hsl]; rfl); conv => whnf)
          | ((with_reducible refine forceL_to (store_all ?_) ?_); (· rw [hsl, hzl]); conv => whnf)
          | ((with_reducible apply optm_of); (· first | exact g0 | exact g1 | exact g2 | exact g3 | exact g4 | exact g5 | exact g6); conv => whnf)
          | ((refine ext_from (by rfl) from_n from_f ?_); conv => whnf)
          | fail)
        refine Go.Eng.Fn.frame [] (by rfl) (by exact trivial) (by rfl) (isinf28p t ?_)
        rw [hinf]
        conv => whnf
        repeat' (first
          | rw [← hz6]
          | rw [← hz7]
          | ((with_reducible refine regx_of ?_ ?_); (· decide +kernel); conv => whnf)
          | ((with_reducible refine growx_pre ?_ ?_); (· exact ⟨_, rfl⟩); conv => whnf)
          | ((with_reducible refine needm_of ?_ ?_); (· first | assumption | exact decide_eq_true (by omega) | exact mkOK_of (by decide) | decide +kernel | (refine decide_eq_true ?_; simp (disch := omega) only [i64w]; omega)); conv => whnf)
          | ((with_reducible refine condm_pos ?_ ?_); (· assumption); conv => whnf)
          | ((with_reducible refine condm_neg ?_ ?_); (· assumption); conv => whnf)
          | ((with_reducible refine forceL_fv (by assumption) ?_); conv => whnf)
          | ((with_reducible refine forceL_rfv (by assumption) ?_); conv => whnf)
          | ((with_reducible refine forceNm_of ?_); conv => whnf)
          | ((with_reducible refine needm_of (fv_lenL (by assumption) (by assumption)) ?_); conv => whnf)
          | ((with_reducible refine optm_var (fv_strL (by assumption) (by assumption)) (fun s hs => ?_)); conv => whnf)
          | ((with_reducible refine forceA_of ?_); conv => whnf)
          | ((with_reducible refine forceL_pl (by assumption) ?_); conv => whnf)
          | ((with_reducible refine forceL_rpl (by assumption) ?_); conv => whnf)
          | (refine ⟨st, hsl, ld, ?_⟩; conv => whnf)
          | ((with_reducible refine needm_of ?_ ?_); (· first | (rw [hsl, hzl]; rfl) | (rw [hsl]; rfl) | (rw [hzl]; rfl)); conv => whnf)
          | ((with_reducible refine forceL_to (whole_of ?_) ?_); (· rw [hsl]; rfl); conv => whnf)
          | ((with_reducible refine forceL_to (store_all ?_) ?_); (· rw [hsl, hzl]); conv => whnf)
          | ((with_reducible apply optm_of); (· first | exact g0 | exact g1 | exact g2 | exact g3 | exact g4 | exact g5 | exact g6); conv => whnf)
          | ((refine ext_from (by rfl) from_n from_f ?_); conv => whnf)
          | fail)
        refine condm_of (fun h0 => ?_) (fun h0 => ?_)
        · have hi0 : 0 < i := by have := of_decide_eq_true h0; omega
          obtain ⟨j, hj⟩ : ∃ j, i = j + 1 := ⟨i - 1, by omega⟩
          obtain ⟨u, hu⟩ : ∃ u, X[j]? = some u := ⟨_, List.getElem?_eq_getElem (by omega)⟩
          have hjw : IntKind.i64.wrap (↑i - 1) = (j : Int) := by rw [i64w (by omega) (by omega)]; omega
          have hbe : before (sk P now) u ((k + 1 : Nat) : Int) := by
            obtain ⟨h1, rfl⟩ := List.getElem?_eq_some_iff.1 hu
            obtain ⟨h2, h3⟩ := List.getElem?_eq_some_iff.1 hv
            have := List.pairwise_iff_getElem.1 hXd j i h1 h2 (by omega)
            rw [h3] at this
            exact this
          have d0 : decide (0 ≤ IntKind.i64.wrap (↑i - 1) ∧ IntKind.i64.wrap (↑i - 1) < 5) = true := by rw [hjw]; exact decide_eq_true (by omega)
          have g3 : xs[0 + (IntKind.i64.wrap (↑i - 1)).toNat * Try.prog.types[3].size]? = some (.int .i64 u) := by
            rw [hjw, s3, Int.toNat_natCast, Nat.zero_add, Nat.mul_one]
            exact i64s_get hxs (by rw [List.getElem?_append_left (by omega)]; exact hu)
          conv => whnf
          repeat' (first
            | rw [← hz6]
            | rw [← hz7]
            | ((with_reducible refine regx_of ?_ ?_); (· decide +kernel); conv => whnf)
            | ((with_reducible refine growx_pre ?_ ?_); (· exact ⟨_, rfl⟩); conv => whnf)
            | ((with_reducible refine needm_of ?_ ?_); (· first | assumption | exact decide_eq_true (by omega) | exact mkOK_of (by decide) | decide +kernel | (refine decide_eq_true ?_; simp (disch := omega) only [i64w]; omega)); conv => whnf)
            | ((with_reducible refine condm_pos ?_ ?_); (· assumption); conv => whnf)
            | ((with_reducible refine condm_neg ?_ ?_); (· assumption); conv => whnf)
            | ((with_reducible refine forceL_fv (by assumption) ?_); conv => whnf)
            | ((with_reducible refine forceL_rfv (by assumption) ?_); conv => whnf)
            | ((with_reducible refine forceNm_of ?_); conv => whnf)
            | ((with_reducible refine needm_of (fv_lenL (by assumption) (by assumption)) ?_); conv => whnf)
            | ((with_reducible refine optm_var (fv_strL (by assumption) (by assumption)) (fun s hs => ?_)); conv => whnf)
            | ((with_reducible refine forceA_of ?_); conv => whnf)
            | ((with_reducible refine forceL_pl (by assumption) ?_); conv => whnf)
            | ((with_reducible refine forceL_rpl (by assumption) ?_); conv => whnf)
            | (refine ⟨st, hsl, ld, ?_⟩; conv => whnf)
            | ((with_reducible refine needm_of ?_ ?_); (· first | (rw [hsl, hzl]; rfl) | (rw [hsl]; rfl) | (rw [hzl]; rfl)); conv => whnf)
            | ((with_reducible refine forceL_to (whole_of ?_) ?_); (· rw [hsl]; rfl); conv => whnf)
            | ((with_reducible refine forceL_to (store_all ?_) ?_); (· rw [hsl, hzl]); conv => whnf)
            | ((with_reducible apply optm_of); (· first | exact g0 | exact g1 | exact g2 | exact g3 | exact g4 | exact g5 | exact g6); conv => whnf)
            | ((refine ext_from (by rfl) from_n from_f ?_); conv => whnf)
            | fail)
          refine Go.Eng.Fn.frame [0, 1] (by rfl) (by exact ⟨ren_pl hp _ _ _, rfl, trivial⟩) (by simp [nodupb, V.okb, A.okb, Ob.okb, hp.2] <;> decide) (score27 P cs 5 false hcs hT.1.symm (by decide) u now (fun q hq2 => ?_))
          have hkq := sk_of hq2
          have l1 : less q t = false := by
            rw [less_key, hkq, hkt]
            rcases hbe with h | ⟨h, _⟩
            · exact kl_asymm h
            · rw [h]; exact kl_irrefl _
          have l2 : less t q = true ∨ (less t q = false ∧ decide (u > ((k + 1 : Nat) : Int)) = false) := by
            rw [less_key, hkq, hkt]
            rcases hbe with h | ⟨h, h'⟩
            · exact .inl h
            · exact .inr ⟨by rw [h]; exact kl_irrefl _, decide_eq_false (by omega)⟩
          conv => whnf
          repeat' (first
            | rw [← hz6]
            | rw [← hz7]
            | ((with_reducible refine regx_of ?_ ?_); (· decide +kernel); conv => whnf)
            | ((with_reducible refine growx_pre ?_ ?_); (· exact ⟨_, rfl⟩); conv => whnf)
            | ((with_reducible refine needm_of ?_ ?_); (· first | assumption | exact decide_eq_true (by omega) | exact mkOK_of (by decide) | decide +kernel | (refine decide_eq_true ?_; simp (disch := omega) only [i64w]; omega)); conv => whnf)
            | ((with_reducible refine condm_pos ?_ ?_); (· assumption); conv => whnf)
            | ((with_reducible refine condm_neg ?_ ?_); (· assumption); conv => whnf)
            | ((with_reducible refine forceL_fv (by assumption) ?_); conv => whnf)
            | ((with_reducible refine forceL_rfv (by assumption) ?_); conv => whnf)
            | ((with_reducible refine forceNm_of ?_); conv => whnf)
            | ((with_reducible refine needm_of (fv_lenL (by assumption) (by assumption)) ?_); conv => whnf)
            | ((with_reducible refine optm_var (fv_strL (by assumption) (by assumption)) (fun s hs => ?_)); conv => whnf)
            | ((with_reducible refine forceA_of ?_); conv => whnf)
            | ((with_reducible refine forceL_pl (by assumption) ?_); conv => whnf)
            | ((with_reducible refine forceL_rpl (by assumption) ?_); conv => whnf)
            | (refine ⟨st, hsl, ld, ?_⟩; conv => whnf)
            | ((with_reducible refine needm_of ?_ ?_); (· first | (rw [hsl, hzl]; rfl) | (rw [hsl]; rfl) | (rw [hzl]; rfl)); conv => whnf)
            | ((with_reducible refine forceL_to (whole_of ?_) ?_); (· rw [hsl]; rfl); conv => whnf)
            | ((with_reducible refine forceL_to (store_all ?_) ?_); (· rw [hsl, hzl]); conv => whnf)
            | ((with_reducible apply optm_of); (· first | exact g0 | exact g1 | exact g2 | exact g3 | exact g4 | exact g5 | exact g6); conv => whnf)
            | ((refine ext_from (by rfl) from_n from_f ?_); conv => whnf)
            | fail)
          refine Go.Eng.Fn.frame [] (by rfl) (by exact trivial) (by rfl) (less11 q t ?_)
          rw [l1]
          conv => whnf
          repeat' (first
            | rw [← hz6]
            | rw [← hz7]
            | ((with_reducible refine regx_of ?_ ?_); (· decide +kernel); conv => whnf)
            | ((with_reducible refine growx_pre ?_ ?_); (· exact ⟨_, rfl⟩); conv => whnf)
            | ((with_reducible refine needm_of ?_ ?_); (· first | assumption | exact decide_eq_true (by omega) | exact mkOK_of (by decide) | decide +kernel | (refine decide_eq_true ?_; simp (disch := omega) only [i64w]; omega)); conv => whnf)
            | ((with_reducible refine condm_pos ?_ ?_); (· assumption); conv => whnf)
            | ((with_reducible refine condm_neg ?_ ?_); (· assumption); conv => whnf)
            | ((with_reducible refine forceL_fv (by assumption) ?_); conv => whnf)
            | ((with_reducible refine forceL_rfv (by assumption) ?_); conv => whnf)
            | ((with_reducible refine forceNm_of ?_); conv => whnf)
            | ((with_reducible refine needm_of (fv_lenL (by assumption) (by assumption)) ?_); conv => whnf)
            | ((with_reducible refine optm_var (fv_strL (by assumption) (by assumption)) (fun s hs => ?_)); conv => whnf)
            | ((with_reducible refine forceA_of ?_); conv => whnf)
            | ((with_reducible refine forceL_pl (by assumption) ?_); conv => whnf)
            | ((with_reducible refine forceL_rpl (by assumption) ?_); conv => whnf)
            | (refine ⟨st, hsl, ld, ?_⟩; conv => whnf)
            | ((with_reducible refine needm_of ?_ ?_); (· first | (rw [hsl, hzl]; rfl) | (rw [hsl]; rfl) | (rw [hzl]; rfl)); conv => whnf)
            | ((with_reducible refine forceL_to (whole_of ?_) ?_); (· rw [hsl]; rfl); conv => whnf)
            | ((with_reducible refine forceL_to (store_all ?_) ?_); (· rw [hsl, hzl]); conv => whnf)
            | ((with_reducible apply optm_of); (· first | exact g0 | exact g1 | exact g2 | exact g3 | exact g4 | exact g5 | exact g6); conv => whnf)
            | ((refine ext_from (by rfl) from_n from_f ?_); conv => whnf)
            | fail)
          refine Go.Eng.Fn.frame [] (by rfl) (by exact trivial) (by rfl) (less11 t q ?_)
          rcases l2 with l2 | ⟨l2, l3⟩
          · rw [l2]
            conv => whnf
            repeat' (first
              | rw [← hz6]
              | rw [← hz7]
              | ((with_reducible refine regx_of ?_ ?_); (· decide +kernel); conv => whnf)
              | ((with_reducible refine growx_pre ?_ ?_); (· exact ⟨_, rfl⟩); conv => whnf)
              | ((with_reducible refine needm_of ?_ ?_); (· first | assumption | exact decide_eq_true (by omega) | exact mkOK_of (by decide) | decide +kernel | (refine decide_eq_true ?_; simp (disch := omega) only [i64w]; omega)); conv => whnf)
              | ((with_reducible refine condm_pos ?_ ?_); (· assumption); conv => whnf)
              | ((with_reducible refine condm_neg ?_ ?_); (· assumption); conv => whnf)
              | ((with_reducible refine forceL_fv (by assumption) ?_); conv => whnf)
              | ((with_reducible refine forceL_rfv (by assumption) ?_); conv => whnf)
              | ((with_reducible refine forceNm_of ?_); conv => whnf)
              | ((with_reducible refine needm_of (fv_lenL (by assumption) (by assumption)) ?_); conv => whnf)
              | ((with_reducible refine optm_var (fv_strL (by assumption) (by assumption)) (fun s hs => ?_)); conv => whnf)
              | ((with_reducible refine forceA_of ?_); conv => whnf)
              | ((with_reducible refine forceL_pl (by assumption) ?_); conv => whnf)
              | ((with_reducible refine forceL_rpl (by assumption) ?_); conv => whnf)
              | (refine ⟨st, hsl, ld, ?_⟩; conv => whnf)
              | ((with_reducible refine needm_of ?_ ?_); (· first | (rw [hsl, hzl]; rfl) | (rw [hsl]; rfl) | (rw [hzl]; rfl)); conv => whnf)
              | ((with_reducible refine forceL_to (whole_of ?_) ?_); (· rw [hsl]; rfl); conv => whnf)
              | ((with_reducible refine forceL_to (store_all ?_) ?_); (· rw [hsl, hzl]); conv => whnf)
              | ((with_reducible apply optm_of); (· first | exact g0 | exact g1 | exact g2 | exact g3 | exact g4 | exact g5 | exact g6); conv => whnf)
              | ((refine ext_from (by rfl) from_n from_f ?_); conv => whnf)
              | fail)
            exact ⟨5 - (i + 1), by omega, Into.weak [0, 1, 2, 3, 4] [(5, .a (.ptr 1 0)), (7, .a (.ptr 2 0)), (10, .a (.flt .f64 now)), (11, .a (.slc 3 0 5 cp)), (12, .a (.ptr 4 0)), (13, .a (.int .i64 ((i + 1 : Nat) : Int)))] [.cells cs 73 false, .cells [.slc 0 0 5 5] 68 false, .cells bs 45 false, .cells xs 3 false, .cells ss2 45 false] ⟨i + 1, _, ss2, by omega, rfl, hss2, by rw [List.length_set]; exact hSl, hSv2, rfl, rfl⟩ ⟨rfl, rfl, rfl, rfl, rfl, congrArg (fun z => some (V.a (.int .i64 z))) hw, trivial⟩ ⟨ren_pl hp _ _ _, rfl, ren_pl hb _ _ _, ren_pl hq _ _ _, ren_pl hs2 _ _ _, trivial⟩ (by simp [nodupb, baseb, Ob.okb, frmOk, V.okb, A.okb, hp.2, hb.2, hq.2, hs2.2] <;> decide)⟩
          · rw [l2]
            conv => whnf
            repeat' (first
              | rw [← hz6]
              | rw [← hz7]
              | ((with_reducible refine regx_of ?_ ?_); (· decide +kernel); conv => whnf)
              | ((with_reducible refine growx_pre ?_ ?_); (· exact ⟨_, rfl⟩); conv => whnf)
              | ((with_reducible refine needm_of ?_ ?_); (· first | assumption | exact decide_eq_true (by omega) | exact mkOK_of (by decide) | decide +kernel | (refine decide_eq_true ?_; simp (disch := omega) only [i64w]; omega)); conv => whnf)
              | ((with_reducible refine condm_pos ?_ ?_); (· assumption); conv => whnf)
              | ((with_reducible refine condm_neg ?_ ?_); (· assumption); conv => whnf)
              | ((with_reducible refine forceL_fv (by assumption) ?_); conv => whnf)
              | ((with_reducible refine forceL_rfv (by assumption) ?_); conv => whnf)
              | ((with_reducible refine forceNm_of ?_); conv => whnf)
              | ((with_reducible refine needm_of (fv_lenL (by assumption) (by assumption)) ?_); conv => whnf)
              | ((with_reducible refine optm_var (fv_strL (by assumption) (by assumption)) (fun s hs => ?_)); conv => whnf)
              | ((with_reducible refine forceA_of ?_); conv => whnf)
              | ((with_reducible refine forceL_pl (by assumption) ?_); conv => whnf)
              | ((with_reducible refine forceL_rpl (by assumption) ?_); conv => whnf)
              | (refine ⟨st, hsl, ld, ?_⟩; conv => whnf)
              | ((with_reducible refine needm_of ?_ ?_); (· first | (rw [hsl, hzl]; rfl) | (rw [hsl]; rfl) | (rw [hzl]; rfl)); conv => whnf)
              | ((with_reducible refine forceL_to (whole_of ?_) ?_); (· rw [hsl]; rfl); conv => whnf)
              | ((with_reducible refine forceL_to (store_all ?_) ?_); (· rw [hsl, hzl]); conv => whnf)
              | ((with_reducible apply optm_of); (· first | exact g0 | exact g1 | exact g2 | exact g3 | exact g4 | exact g5 | exact g6); conv => whnf)
              | ((refine ext_from (by rfl) from_n from_f ?_); conv => whnf)
              | fail)
            exact ⟨5 - (i + 1), by omega, Into.weak [0, 1, 2, 3, 4] [(5, .a (.ptr 1 0)), (7, .a (.ptr 2 0)), (10, .a (.flt .f64 now)), (11, .a (.slc 3 0 5 cp)), (12, .a (.ptr 4 0)), (13, .a (.int .i64 ((i + 1 : Nat) : Int)))] [.cells cs 73 false, .cells [.slc 0 0 5 5] 68 false, .cells bs 45 false, .cells xs 3 false, .cells ss2 45 false] ⟨i + 1, _, ss2, by omega, rfl, hss2, by rw [List.length_set]; exact hSl, hSv2, rfl, rfl⟩ ⟨rfl, rfl, rfl, rfl, rfl, congrArg (fun z => some (V.a (.int .i64 z))) hw, trivial⟩ ⟨ren_pl hp _ _ _, rfl, ren_pl hb _ _ _, ren_pl hq _ _ _, ren_pl hs2 _ _ _, trivial⟩ (by simp [nodupb, baseb, Ob.okb, frmOk, V.okb, A.okb, hp.2, hb.2, hq.2, hs2.2] <;> decide)⟩
        ·
          conv => whnf
          repeat' (first
            | rw [← hz6]
            | rw [← hz7]
            | ((with_reducible refine regx_of ?_ ?_); (· decide +kernel); conv => whnf)
            | ((with_reducible refine growx_pre ?_ ?_); (· exact ⟨_, rfl⟩); conv => whnf)
            | ((with_reducible refine needm_of ?_ ?_); (· first | assumption | exact decide_eq_true (by omega) | exact mkOK_of (by decide) | decide +kernel | (refine decide_eq_true ?_; simp (disch := omega) only [i64w]; omega)); conv => whnf)
            | ((with_reducible refine condm_pos ?_ ?_); (· assumption); conv => whnf)
            | ((with_reducible refine condm_neg ?_ ?_); (· assumption); conv => whnf)
            | ((with_reducible refine forceL_fv (by assumption) ?_); conv => whnf)
            | ((with_reducible refine forceL_rfv (by assumption) ?_); conv => whnf)
            | ((with_reducible refine forceNm_of ?_); conv => whnf)
            | ((with_reducible refine needm_of (fv_lenL (by assumption) (by assumption)) ?_); conv => whnf)
            | ((with_reducible refine optm_var (fv_strL (by assumption) (by assumption)) (fun s hs => ?_)); conv => whnf)
            | ((with_reducible refine forceA_of ?_); conv => whnf)
            | ((with_reducible refine forceL_pl (by assumption) ?_); conv => whnf)
            | ((with_reducible refine forceL_rpl (by assumption) ?_); conv => whnf)
            | (refine ⟨st, hsl, ld, ?_⟩; conv => whnf)
            | ((with_reducible refine needm_of ?_ ?_); (· first | (rw [hsl, hzl]; rfl) | (rw [hsl]; rfl) | (rw [hzl]; rfl)); conv => whnf)
            | ((with_reducible refine forceL_to (whole_of ?_) ?_); (· rw [hsl]; rfl); conv => whnf)
            | ((with_reducible refine forceL_to (store_all ?_) ?_); (· rw [hsl, hzl]); conv => whnf)
            | ((with_reducible apply optm_of); (· first | exact g0 | exact g1 | exact g2 | exact g3 | exact g4 | exact g5 | exact g6); conv => whnf)
            | ((refine ext_from (by rfl) from_n from_f ?_); conv => whnf)
            | fail)
          exact ⟨5 - (i + 1), by omega, Into.weak [0, 1, 2, 3, 4] [(5, .a (.ptr 1 0)), (7, .a (.ptr 2 0)), (10, .a (.flt .f64 now)), (11, .a (.slc 3 0 5 cp)), (12, .a (.ptr 4 0)), (13, .a (.int .i64 ((i + 1 : Nat) : Int)))] [.cells cs 73 false, .cells [.slc 0 0 5 5] 68 false, .cells bs 45 false, .cells xs 3 false, .cells ss2 45 false] ⟨i + 1, _, ss2, by omega, rfl, hss2, by rw [List.length_set]; exact hSl, hSv2, rfl, rfl⟩ ⟨rfl, rfl, rfl, rfl, rfl, congrArg (fun z => some (V.a (.int .i64 z))) hw, trivial⟩ ⟨ren_pl hp _ _ _, rfl, ren_pl hb _ _ _, ren_pl hq _ _ _, ren_pl hs2 _ _ _, trivial⟩ (by simp [nodupb, baseb, Ob.okb, frmOk, V.okb, A.okb, hp.2, hb.2, hq.2, hs2.2] <;> decide)⟩
      | true =>
        rw [he] at g2
        conv => whnf
        repeat' (first
          | rw [← hz6]
          | rw [← hz7]
          | ((with_reducible refine regx_of ?_ ?_); (· decide +kernel); conv => whnf)
          | ((with_reducible refine growx_pre ?_ ?_); (· exact ⟨_, rfl⟩); conv => whnf)
          | ((with_reducible refine needm_of ?_ ?_); (· first | assumption | exact decide_eq_true (by omega) | exact mkOK_of (by decide) | decide +kernel | (refine decide_eq_true ?_; simp (disch := omega) only [i64w]; omega)); conv => whnf)
          | ((with_reducible refine condm_pos ?_ ?_); (· assumption); conv => whnf)
          | ((with_reducible refine condm_neg ?_ ?_); (· assumption); conv => whnf)
          | ((with_reducible refine forceL_fv (by assumption) ?_); conv => whnf)
          | ((with_reducible refine forceL_rfv (by assumption) ?_); conv => whnf)
          | ((with_reducible refine forceNm_of ?_); conv => whnf)
          | ((with_reducible refine needm_of (fv_lenL (by assumption) (by assumption)) ?_); conv => whnf)
          | ((with_reducible refine optm_var (fv_strL (by assumption) (by assumption)) (fun s hs => ?_)); conv => whnf)
          | ((with_reducible refine forceA_of ?_); conv => whnf)
          | ((with_reducible refine forceL_pl (by assumption) ?_); conv => whnf)
          | ((with_reducible refine forceL_rpl (by assumption) ?_); conv => whnf)
          | (refine ⟨st, hsl, ld, ?_⟩; conv => whnf)
          | ((with_reducible refine needm_of ?_ ?_); (· first | (rw [hsl, hzl]; rfl) | (rw [hsl]; rfl) | (rw [hzl]; rfl)); conv => whnf)
          | ((with_reducible refine forceL_to (whole_of ?_) ?_); (· rw [hsl]; rfl); conv => whnf)
          | ((with_reducible refine forceL_to (store_all ?_) ?_); (· rw [hsl, hzl]); conv => whnf)
          | ((with_reducible apply optm_of); (· first | exact g0 | exact g1 | exact g2 | exact g3 | exact g4 | exact g5 | exact g6); conv => whnf)
          | ((refine ext_from (by rfl) from_n from_f ?_); conv => whnf)
          | fail)
        refine condm_of (fun h0 => ?_) (fun h0 => ?_)
        · have hi0 : 0 < i := by have := of_decide_eq_true h0; omega
          obtain ⟨j, hj⟩ : ∃ j, i = j + 1 := ⟨i - 1, by omega⟩
          obtain ⟨u, hu⟩ : ∃ u, X[j]? = some u := ⟨_, List.getElem?_eq_getElem (by omega)⟩
          have hjw : IntKind.i64.wrap (↑i - 1) = (j : Int) := by rw [i64w (by omega) (by omega)]; omega
          have hbe : before (sk P now) u ((k + 1 : Nat) : Int) := by
            obtain ⟨h1, rfl⟩ := List.getElem?_eq_some_iff.1 hu
            obtain ⟨h2, h3⟩ := List.getElem?_eq_some_iff.1 hv
            have := List.pairwise_iff_getElem.1 hXd j i h1 h2 (by omega)
            rw [h3] at this
            exact this
          have d0 : decide (0 ≤ IntKind.i64.wrap (↑i - 1) ∧ IntKind.i64.wrap (↑i - 1) < 5) = true := by rw [hjw]; exact decide_eq_true (by omega)
          have g3 : xs[0 + (IntKind.i64.wrap (↑i - 1)).toNat * Try.prog.types[3].size]? = some (.int .i64 u) := by
            rw [hjw, s3, Int.toNat_natCast, Nat.zero_add, Nat.mul_one]
            exact i64s_get hxs (by rw [List.getElem?_append_left (by omega)]; exact hu)
          conv => whnf
          repeat' (first
            | rw [← hz6]
            | rw [← hz7]
            | ((with_reducible refine regx_of ?_ ?_); (· decide +kernel); conv => whnf)
            | ((with_reducible refine growx_pre ?_ ?_); (· exact ⟨_, rfl⟩); conv => whnf)
            | ((with_reducible refine needm_of ?_ ?_); (· first | assumption | exact decide_eq_true (by omega) | exact mkOK_of (by decide) | decide +kernel | (refine decide_eq_true ?_; simp (disch := omega) only [i64w]; omega)); conv => whnf)
            | ((with_reducible refine condm_pos ?_ ?_); (· assumption); conv => whnf)
            | ((with_reducible refine condm_neg ?_ ?_); (· assumption); conv => whnf)
            | ((with_reducible refine forceL_fv (by assumption) ?_); conv => whnf)
            | ((with_reducible refine forceL_rfv (by assumption) ?_); conv => whnf)
            | ((with_reducible refine forceNm_of ?_); conv => whnf)
            | ((with_reducible refine needm_of (fv_lenL (by assumption) (by assumption)) ?_); conv => whnf)
            | ((with_reducible refine optm_var (fv_strL (by assumption) (by assumption)) (fun s hs => ?_)); conv => whnf)
            | ((with_reducible refine forceA_of ?_); conv => whnf)
            | ((with_reducible refine forceL_pl (by assumption) ?_); conv => whnf)
            | ((with_reducible refine forceL_rpl (by assumption) ?_); conv => whnf)
            | (refine ⟨st, hsl, ld, ?_⟩; conv => whnf)
            | ((with_reducible refine needm_of ?_ ?_); (· first | (rw [hsl, hzl]; rfl) | (rw [hsl]; rfl) | (rw [hzl]; rfl)); conv => whnf)
            | ((with_reducible refine forceL_to (whole_of ?_) ?_); (· rw [hsl]; rfl); conv => whnf)
            | ((with_reducible refine forceL_to (store_all ?_) ?_); (· rw [hsl, hzl]); conv => whnf)
            | ((with_reducible apply optm_of); (· first | exact g0 | exact g1 | exact g2 | exact g3 | exact g4 | exact g5 | exact g6); conv => whnf)
            | ((refine ext_from (by rfl) from_n from_f ?_); conv => whnf)
            | fail)
          refine Go.Eng.Fn.frame [0, 1] (by rfl) (by exact ⟨ren_pl hp _ _ _, rfl, trivial⟩) (by simp [nodupb, V.okb, A.okb, Ob.okb, hp.2] <;> decide) (score27 P cs 5 false hcs hT.1.symm (by decide) u now (fun q hq2 => ?_))
          have hkq := sk_of hq2
          have l1 : less q t = false := by
            rw [less_key, hkq, hkt]
            rcases hbe with h | ⟨h, _⟩
            · exact kl_asymm h
            · rw [h]; exact kl_irrefl _
          have l2 : less t q = true ∨ (less t q = false ∧ decide (u > ((k + 1 : Nat) : Int)) = false) := by
            rw [less_key, hkq, hkt]
            rcases hbe with h | ⟨h, h'⟩
            · exact .inl h
            · exact .inr ⟨by rw [h]; exact kl_irrefl _, decide_eq_false (by omega)⟩
          conv => whnf
          repeat' (first
            | rw [← hz6]
            | rw [← hz7]
            | ((with_reducible refine regx_of ?_ ?_); (· decide +kernel); conv => whnf)
            | ((with_reducible refine growx_pre ?_ ?_); (· exact ⟨_, rfl⟩); conv => whnf)
            | ((with_reducible refine needm_of ?_ ?_); (· first | assumption | exact decide_eq_true (by omega) | exact mkOK_of (by decide) | decide +kernel | (refine decide_eq_true ?_; simp (disch := omega) only [i64w]; omega)); conv => whnf)
            | ((with_reducible refine condm_pos ?_ ?_); (· assumption); conv => whnf)
            | ((with_reducible refine condm_neg ?_ ?_); (· assumption); conv => whnf)
            | ((with_reducible refine forceL_fv (by assumption) ?_); conv => whnf)
            | ((with_reducible refine forceL_rfv (by assumption) ?_); conv => whnf)
            | ((with_reducible refine forceNm_of ?_); conv => whnf)
            | ((with_reducible refine needm_of (fv_lenL (by assumption) (by assumption)) ?_); conv => whnf)
            | ((with_reducible refine optm_var (fv_strL (by assumption) (by assumption)) (fun s hs => ?_)); conv => whnf)
            | ((with_reducible refine forceA_of ?_); conv => whnf)
            | ((with_reducible refine forceL_pl (by assumption) ?_); conv => whnf)
            | ((with_reducible refine forceL_rpl (by assumption) ?_); conv => whnf)
            | (refine ⟨st, hsl, ld, ?_⟩; conv => whnf)
            | ((with_reducible refine needm_of ?_ ?_); (· first | (rw [hsl, hzl]; rfl) | (rw [hsl]; rfl) | (rw [hzl]; rfl)); conv => whnf)
            | ((with_reducible refine forceL_to (whole_of ?_) ?_); (· rw [hsl]; rfl); conv => whnf)
            | ((with_reducible refine forceL_to (store_all ?_) ?_); (· rw [hsl, hzl]); conv => whnf)
            | ((with_reducible apply optm_of); (· first | exact g0 | exact g1 | exact g2 | exact g3 | exact g4 | exact g5 | exact g6); conv => whnf)
            | ((refine ext_from (by rfl) from_n from_f ?_); conv => whnf)
            | fail)
          refine Go.Eng.Fn.frame [] (by rfl) (by exact trivial) (by rfl) (less11 q t ?_)
          rw [l1]
          conv => whnf
          repeat' (first
            | rw [← hz6]
            | rw [← hz7]
            | ((with_reducible refine regx_of ?_ ?_); (· decide +kernel); conv => whnf)
            | ((with_reducible refine growx_pre ?_ ?_); (· exact ⟨_, rfl⟩); conv => whnf)
            | ((with_reducible refine needm_of ?_ ?_); (· first | assumption | exact decide_eq_true (by omega) | exact mkOK_of (by decide) | decide +kernel | (refine decide_eq_true ?_; simp (disch := omega) only [i64w]; omega)); conv => whnf)
            | ((with_reducible refine condm_pos ?_ ?_); (· assumption); conv => whnf)
            | ((with_reducible refine condm_neg ?_ ?_); (· assumption); conv => whnf)
            | ((with_reducible refine forceL_fv (by assumption) ?_); conv => whnf)
            | ((with_reducible refine forceL_rfv (by assumption) ?_); conv => whnf)
            | ((with_reducible refine forceNm_of ?_); conv => whnf)
            | ((with_reducible refine needm_of (fv_lenL (by assumption) (by assumption)) ?_); conv => whnf)
            | ((with_reducible refine optm_var (fv_strL (by assumption) (by assumption)) (fun s hs => ?_)); conv => whnf)
            | ((with_reducible refine forceA_of ?_); conv => whnf)
            | ((with_reducible refine forceL_pl (by assumption) ?_); conv => whnf)
            | ((with_reducible refine forceL_rpl (by assumption) ?_); conv => whnf)
            | (refine ⟨st, hsl, ld, ?_⟩; conv => whnf)
            | ((with_reducible refine needm_of ?_ ?_); (· first | (rw [hsl, hzl]; rfl) | (rw [hsl]; rfl) | (rw [hzl]; rfl)); conv => whnf)
            | ((with_reducible refine forceL_to (whole_of ?_) ?_); (· rw [hsl]; rfl); conv => whnf)
            | ((with_reducible refine forceL_to (store_all ?_) ?_); (· rw [hsl, hzl]); conv => whnf)
            | ((with_reducible apply optm_of); (· first | exact g0 | exact g1 | exact g2 | exact g3 | exact g4 | exact g5 | exact g6); conv => whnf)
            | ((refine ext_from (by rfl) from_n from_f ?_); conv => whnf)
            | fail)
          refine Go.Eng.Fn.frame [] (by rfl) (by exact trivial) (by rfl) (less11 t q ?_)
          rcases l2 with l2 | ⟨l2, l3⟩
          · rw [l2]
            conv => whnf
            repeat' (first
              | rw [← hz6]
              | rw [← hz7]
              | ((with_reducible refine regx_of ?_ ?_); (· decide +kernel); conv => whnf)
              | ((with_reducible refine growx_pre ?_ ?_); (· exact ⟨_, rfl⟩); conv => whnf)
              | ((with_reducible refine needm_of ?_ ?_); (· first | assumption | exact decide_eq_true (by omega) | exact mkOK_of (by decide) | decide +kernel | (refine decide_eq_true ?_; simp (disch := omega) only [i64w]; omega)); conv => whnf)
              | ((with_reducible refine condm_pos ?_ ?_); (· assumption); conv => whnf)
              | ((with_reducible refine condm_neg ?_ ?_); (· assumption); conv => whnf)
              | ((with_reducible refine forceL_fv (by assumption) ?_); conv => whnf)
              | ((with_reducible refine forceL_rfv (by assumption) ?_); conv => whnf)
              | ((with_reducible refine forceNm_of ?_); conv => whnf)
              | ((with_reducible refine needm_of (fv_lenL (by assumption) (by assumption)) ?_); conv => whnf)
              | ((with_reducible refine optm_var (fv_strL (by assumption) (by assumption)) (fun s hs => ?_)); conv => whnf)
              | ((with_reducible refine forceA_of ?_); conv => whnf)
              | ((with_reducible refine forceL_pl (by assumption) ?_); conv => whnf)
              | ((with_reducible refine forceL_rpl (by assumption) ?_); conv => whnf)
              | (refine ⟨st, hsl, ld, ?_⟩; conv => whnf)
              | ((with_reducible refine needm_of ?_ ?_); (· first | (rw [hsl, hzl]; rfl) | (rw [hsl]; rfl) | (rw [hzl]; rfl)); conv => whnf)
              | ((with_reducible refine forceL_to (whole_of ?_) ?_); (· rw [hsl]; rfl); conv => whnf)
              | ((with_reducible refine forceL_to (store_all ?_) ?_); (· rw [hsl, hzl]); conv => whnf)
              | ((with_reducible apply optm_of); (· first | exact g0 | exact g1 | exact g2 | exact g3 | exact g4 | exact g5 | exact g6); conv => whnf)
              | ((refine ext_from (by rfl) from_n from_f ?_); conv => whnf)
              | fail)
            exact ⟨5 - (i + 1), by omega, Into.weak [0, 1, 2, 3, 4] [(5, .a (.ptr 1 0)), (7, .a (.ptr 2 0)), (10, .a (.flt .f64 now)), (11, .a (.slc 3 0 5 cp)), (12, .a (.ptr 4 0)), (13, .a (.int .i64 ((i + 1 : Nat) : Int)))] [.cells cs 73 false, .cells [.slc 0 0 5 5] 68 false, .cells bs 45 false, .cells xs 3 false, .cells ss2 45 false] ⟨i + 1, _, ss2, by omega, rfl, hss2, by rw [List.length_set]; exact hSl, hSv2, rfl, rfl⟩ ⟨rfl, rfl, rfl, rfl, rfl, congrArg (fun z => some (V.a (.int .i64 z))) hw, trivial⟩ ⟨ren_pl hp _ _ _, rfl, ren_pl hb _ _ _, ren_pl hq _ _ _, ren_pl hs2 _ _ _, trivial⟩ (by simp [nodupb, baseb, Ob.okb, frmOk, V.okb, A.okb, hp.2, hb.2, hq.2, hs2.2] <;> decide)⟩
          · rw [l2]
            conv => whnf
            repeat' (first
              | rw [← hz6]
              | rw [← hz7]
              | ((with_reducible refine regx_of ?_ ?_); (· decide +kernel); conv => whnf)
              | ((with_reducible refine growx_pre ?_ ?_); (· exact ⟨_, rfl⟩); conv => whnf)
              | ((with_reducible refine needm_of ?_ ?_); (· first | assumption | exact decide_eq_true (by omega) | exact mkOK_of (by decide) | decide +kernel | (refine decide_eq_true ?_; simp (disch := omega) only [i64w]; omega)); conv => whnf)
              | ((with_reducible refine condm_pos ?_ ?_); (· assumption); conv => whnf)
              | ((with_reducible refine condm_neg ?_ ?_); (· assumption); conv => whnf)
              | ((with_reducible refine forceL_fv (by assumption) ?_); conv => whnf)
              | ((with_reducible refine forceL_rfv (by assumption) ?_); conv => whnf)
              | ((with_reducible refine forceNm_of ?_); conv => whnf)
              | ((with_reducible refine needm_of (fv_lenL (by assumption) (by assumption)) ?_); conv => whnf)
              | ((with_reducible refine optm_var (fv_strL (by assumption) (by assumption)) (fun s hs => ?_)); conv => whnf)
              | ((with_reducible refine forceA_of ?_); conv => whnf)
              | ((with_reducible refine forceL_pl (by assumption) ?_); conv => whnf)
              | ((with_reducible refine forceL_rpl (by assumption) ?_); conv => whnf)
              | (refine ⟨st, hsl, ld, ?_⟩; conv => whnf)
              | ((with_reducible refine needm_of ?_ ?_); (· first | (rw [hsl, hzl]; rfl) | (rw [hsl]; rfl) | (rw [hzl]; rfl)); conv => whnf)
              | ((with_reducible refine forceL_to (whole_of ?_) ?_); (· rw [hsl]; rfl); conv => whnf)
              | ((with_reducible refine forceL_to (store_all ?_) ?_); (· rw [hsl, hzl]); conv => whnf)
              | ((with_reducible apply optm_of); (· first | exact g0 | exact g1 | exact g2 | exact g3 | exact g4 | exact g5 | exact g6); conv => whnf)
              | ((refine ext_from (by rfl) from_n from_f ?_); conv => whnf)
              | fail)
            exact ⟨5 - (i + 1), by omega, Into.weak [0, 1, 2, 3, 4] [(5, .a (.ptr 1 0)), (7, .a (.ptr 2 0)), (10, .a (.flt .f64 now)), (11, .a (.slc 3 0 5 cp)), (12, .a (.ptr 4 0)), (13, .a (.int .i64 ((i + 1 : Nat) : Int)))] [.cells cs 73 false, .cells [.slc 0 0 5 5] 68 false, .cells bs 45 false, .cells xs 3 false, .cells ss2 45 false] ⟨i + 1, _, ss2, by omega, rfl, hss2, by rw [List.length_set]; exact hSl, hSv2, rfl, rfl⟩ ⟨rfl, rfl, rfl, rfl, rfl, congrArg (fun z => some (V.a (.int .i64 z))) hw, trivial⟩ ⟨ren_pl hp _ _ _, rfl, ren_pl hb _ _ _, ren_pl hq _ _ _, ren_pl hs2 _ _ _, trivial⟩ (by simp [nodupb, baseb, Ob.okb, frmOk, V.okb, A.okb, hp.2, hb.2, hq.2, hs2.2] <;> decide)⟩
        ·
          conv => whnf
          repeat' (first
            | rw [← hz6]
            | rw [← hz7]
            | ((with_reducible refine regx_of ?_ ?_); (· decide +kernel); conv => whnf)
            | ((with_reducible refine growx_pre ?_ ?_); (· exact ⟨_, rfl⟩); conv => whnf)
            | ((with_reducible refine needm_of ?_ ?_); (· first | assumption | exact decide_eq_true (by omega) | exact mkOK_of (by decide) | decide +kernel | (refine decide_eq_true ?_; simp (disch := omega) only [i64w]; omega)); conv => whnf)
            | ((with_reducible refine condm_pos ?_ ?_); (· assumption); conv => whnf)
            | ((with_reducible refine condm_neg ?_ ?_); (· assumption); conv => whnf)
            | ((with_reducible refine forceL_fv (by assumption) ?_); conv => whnf)
            | ((with_reducible refine forceL_rfv (by assumption) ?_); conv => whnf)
            | ((with_reducible refine forceNm_of ?_); conv => whnf)
            | ((with_reducible refine needm_of (fv_lenL (by assumption) (by assumption)) ?_); conv => whnf)
            | ((with_reducible refine optm_var (fv_strL (by assumption) (by assumption)) (fun s hs => ?_)); conv => whnf)
            | ((with_reducible refine forceA_of ?_); conv => whnf)
            | ((with_reducible refine forceL_pl (by assumption) ?_); conv => whnf)
            | ((with_reducible refine forceL_rpl (by assumption) ?_); conv => whnf)
            | (refine ⟨st, hsl, ld, ?_⟩; conv => whnf)
            | ((with_reducible refine needm_of ?_ ?_); (· first | (rw [hsl, hzl]; rfl) | (rw [hsl]; rfl) | (rw [hzl]; rfl)); conv => whnf)
            | ((with_reducible refine forceL_to (whole_of ?_) ?_); (· rw [hsl]; rfl); conv => whnf)
            | ((with_reducible refine forceL_to (store_all ?_) ?_); (· rw [hsl, hzl]); conv => whnf)
            | ((with_reducible apply optm_of); (· first | exact g0 | exact g1 | exact g2 | exact g3 | exact g4 | exact g5 | exact g6); conv => whnf)
            | ((refine ext_from (by rfl) from_n from_f ?_); conv => whnf)
            | fail)
          exact ⟨5 - (i + 1), by omega, Into.weak [0, 1, 2, 3, 4] [(5, .a (.ptr 1 0)), (7, .a (.ptr 2 0)), (10, .a (.flt .f64 now)), (11, .a (.slc 3 0 5 cp)), (12, .a (.ptr 4 0)), (13, .a (.int .i64 ((i + 1 : Nat) : Int)))] [.cells cs 73 false, .cells [.slc 0 0 5 5] 68 false, .cells bs 45 false, .cells xs 3 false, .cells ss2 45 false] ⟨i + 1, _, ss2, by omega, rfl, hss2, by rw [List.length_set]; exact hSl, hSv2, rfl, rfl⟩ ⟨rfl, rfl, rfl, rfl, rfl, congrArg (fun z => some (V.a (.int .i64 z))) hw, trivial⟩ ⟨ren_pl hp _ _ _, rfl, ren_pl hb _ _ _, ren_pl hq _ _ _, ren_pl hs2 _ _ _, trivial⟩ (by simp [nodupb, baseb, Ob.okb, frmOk, V.okb, A.okb, hp.2, hb.2, hq.2, hs2.2] <;> decide)⟩
    ·
      conv => whnf
      repeat' (first
        | rw [← hz6]
        | rw [← hz7]
        | ((with_reducible refine regx_of ?_ ?_); (· decide +kernel); conv => whnf)
        | ((with_reducible refine growx_pre ?_ ?_); (· exact ⟨_, rfl⟩); conv => whnf)
        | ((with_reducible refine needm_of ?_ ?_); (· first | assumption | exact decide_eq_true (by omega) | exact mkOK_of (by decide) | decide +kernel | (refine decide_eq_true ?_; simp (disch := omega) only [i64w]; omega)); conv => whnf)
        | ((with_reducible refine condm_pos ?_ ?_); (· assumption); conv => whnf)
        | ((with_reducible refine condm_neg ?_ ?_); (· assumption); conv => whnf)
        | ((with_reducible refine forceL_fv (by assumption) ?_); conv => whnf)
        | ((with_reducible refine forceL_rfv (by assumption) ?_); conv => whnf)
        | ((with_reducible refine forceNm_of ?_); conv => whnf)
        | ((with_reducible refine needm_of (fv_lenL (by assumption) (by assumption)) ?_); conv => whnf)
        | ((with_reducible refine optm_var (fv_strL (by assumption) (by assumption)) (fun s hs => ?_)); conv => whnf)
        | ((with_reducible refine forceA_of ?_); conv => whnf)
        | ((with_reducible refine forceL_pl (by assumption) ?_); conv => whnf)
        | ((with_reducible refine forceL_rpl (by assumption) ?_); conv => whnf)
        | (refine ⟨st, hsl, ld, ?_⟩; conv => whnf)
        | ((with_reducible refine needm_of ?_ ?_); (· first | (rw [hsl, hzl]; rfl) | (rw [hsl]; rfl) | (rw [hzl]; rfl)); conv => whnf)
        | ((with_reducible refine forceL_to (whole_of ?_) ?_); (· rw [hsl]; rfl); conv => whnf)
        | ((with_reducible refine forceL_to (store_all ?_) ?_); (· rw [hsl, hzl]); conv => whnf)
        | ((with_reducible apply optm_of); (· first | exact g0 | exact g1 | exact g2 | exact g3 | exact g4 | exact g5 | exact g6); conv => whnf)
        | ((refine ext_from (by rfl) from_n from_f ?_); conv => whnf)
        | fail)
theorem top7 (W : World) (y : A) (len cap : Nat) (G : Nat → List A) (hG : IsSl W 6 KY y len cap G) (x : Int) (hx : IntKind.u64.min ≤ x ∧ x ≤ IntKind.u64.max) :
    Go.Eng.Fn Try.prog (roOf W) 7 [.a y, .a (.int .u64 x)] [] (fun v _ => v = .a (.bool true)) := by
  have h0 : (0 : Int) ≤ x := hx.1
  obtain ⟨now, rfl⟩ : ∃ n : Nat, x = n := ⟨x.toNat, by omega⟩
  rcases id hG with ⟨rfl, _⟩ | ⟨p, rfl, h1, h2, _⟩
  · exact order_nil W now
  · exact order W p len cap G hG (by unfold maxLen at h2; omega) now
end
end Go.Proofs.Ytmnimmhpclhmfaa.PC
