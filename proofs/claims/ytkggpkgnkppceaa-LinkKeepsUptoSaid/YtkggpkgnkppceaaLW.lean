import Derived.Test.YtkggpkgnkppceaaLV
import Derived.Test.YtkggpkgnkppceaaLO
namespace Go.Proofs.Ytkggpkgnkppceaa.LK
open Go.Eng
set_option maxRecDepth 100000
/-- The loops of a text, the outer one ahead. -/
def loopsIn : Code → List Code
  | .seq a b => loopsIn a ++ loopsIn b
  | .cond _ a b => loopsIn a ++ loopsIn b
  | .block _ a => loopsIn a
  | .loop a => a :: loopsIn a
  | _ => []
def loopAt (f : Func) (n : Nat) : Code := match f.body with
  | some c => (loopsIn c).getD n .skip
  | none => .skip
@[reducible] def F6 (room : Int) (s l : A) (i : Int) : Frm := [(0, .a (.int .i64 room)), (1, .a s), (5, .a (.ptr 0 0)), (7, .a l), (8, .a (.int .i64 i))]
def InK (room n : Nat) (l : A) (H : Hp) : Prop :=
  (l = .nils ∧ H = [.cells [.int .i64 room, .nils] 57 false]) ∨
  ∃ (L y : List Fl) (cs : List A) (cap : Nat) (mk : Bool) (C z : List Cf) (cc : List A) (kap : Nat) (mc : Bool), cs = fls (L ++ y) ∧ cap = L.length + y.length ∧ L.length ≤ room ∧ cc = cfs (C ++ z) ∧ kap = C.length + z.length ∧ C.length ≤ n ∧ Cnt L C ∧
    l = .slc 2 0 C.length kap ∧ H = [.cells [.int .i64 room, .slc 1 0 L.length cap] 57 false, .cells cs 61 mk, .cells cc 53 mc]
def Inv6 (room : Nat) (s : A) (len : Nat) (m : Nat) (F : Frm) (H : Hp) : Prop :=
  ∃ (i : Nat) (l : A), i ≤ len ∧ m = len - i ∧ F = F6 room s l i ∧ InK room i l H
theorem InK.b {room n nl nc cap kap : Nat} {cs cc : List A} {mk mc : Bool} (L y : List Fl) (C z : List Cf) (hl : L.length = nl) (hc : C.length = nc) (hcs : cs = fls (L ++ y)) (hcap : cap = L.length + y.length) (hL : L.length ≤ room) (hcc : cc = cfs (C ++ z)) (hkap : kap = C.length + z.length) (hCn : C.length ≤ n) (hCnt : Cnt L C) :
    InK room n (.slc 2 0 nc kap) [.cells [.int .i64 room, .slc 1 0 nl cap] 57 false, .cells cs 61 mk, .cells cc 53 mc] := by
  subst hl hc
  exact .inr ⟨L, y, cs, cap, mk, C, z, cc, kap, mc, hcs, hcap, hL, hcc, hkap, hCn, hCnt, rfl, rfl⟩
theorem fits_no {f t : UInt8} (h : (okR f && okR t) = false) : decide ((f.toNat : Int) ≥ 1) = false ∨ (decide ((f.toNat : Int) ≥ 1) = true ∧ decide ((f.toNat : Int) ≤ 5) = false) ∨
    (decide ((f.toNat : Int) ≥ 1) = true ∧ decide ((f.toNat : Int) ≤ 5) = true ∧ decide ((t.toNat : Int) ≥ 1) = false) ∨
    (decide ((f.toNat : Int) ≥ 1) = true ∧ decide ((f.toNat : Int) ≤ 5) = true ∧ decide ((t.toNat : Int) ≥ 1) = true ∧ decide ((t.toNat : Int) ≤ 5) = false) := by
  unfold okR at h
  simp only [decide_eq_true_eq, decide_eq_false_iff_not, Bool.and_eq_false_iff] at h ⊢
  omega
theorem fits_yes {f t : UInt8} (h : (okR f && okR t) = true) : decide ((f.toNat : Int) ≥ 1) = true ∧ decide ((f.toNat : Int) ≤ 5) = true ∧ decide ((t.toNat : Int) ≥ 1) = true ∧ decide ((t.toNat : Int) ≤ 5) = true := by
  unfold okR at h
  simp only [decide_eq_true_eq, Bool.and_eq_true] at h ⊢
  omega
theorem kinds (k : Int) : k = 0 ∨ k = 2 ∨ k = 3 ∨ k = 4 ∨ k = 5 ∨ k = 6 ∨ ((k == 0) = false ∧ (k == 2) = false ∧ (k == 3) = false ∧ (k == 4) = false ∧ (k == 5) = false ∧ (k == 6) = false) := by
  simp only [beq_eq_false_iff_ne, ne_eq]
  omega
section
set_option maxHeartbeats 4000000 in
theorem bodyA (W : World) (room : Nat) (hr1 : 1 ≤ room) (hr2 : room ≤ 1024) (p : Addr) (len cap : Nat) (G : Nat → List A) (hG : IsSl W 7 KO (.rslc p len cap) len cap G) (hlen : len < 1048576) {Q : Exit → Frm → Hp → Prop}
    (hQ : ∀ (l : A) (i : Nat) (H : Hp), i ≤ len → InK room i l H → Q (.exit 0) ((54, V.a (A.bool (decide ((i : Int) < (len : Int))))) :: (53, V.a (A.int IntKind.i64 len)) :: (52, V.a (A.rslc p len cap)) :: (51, V.a (A.int IntKind.i64 i)) :: F6 room (.rslc p len cap) l i) H)
    (i : Nat) (hi : i ≤ len) :
    wpx Try.prog (roOf W) Try.f6.ntmps 0 h6 (loopAt Try.f6 0) (F6 room (.rslc p len cap) .nils i) [.cells [.int .i64 room, .nils] 57 false] (fun e F' H' => match e with
      | .normal => ∃ m, m < len - i ∧ Into 0 F' H' (Inv6 room (.rslc p len cap) len m)
      | e => Q e F' H') := by
  obtain ⟨z7, hz7⟩ : ∃ z : List A, z = [.int .i64 0, .int .i64 0, .int .i64 0, .int .i64 0, .int .u8 0, .int .u8 0, .str { data := #[] }] := ⟨_, rfl⟩
  have hzp : Pl z7 := by rw [hz7]; exact ⟨fun _ => rfl, fun _ => rfl⟩
  have hzl : z7.length = 7 := by rw [hz7]; rfl
  have c0 : decide ((0 : Int) > (room : Int)) = false := decide_eq_false (by omega)
  have c00 : decide ((0 : Int) < (room : Int)) = true := decide_eq_true (by omega)
  conv => whnf
  refine condm_of (fun h => ?_) (fun h => ?_)
  · have hil : i < len := by have := of_decide_eq_true h; omega
    obtain ⟨hf, hro⟩ := hG.get hil
    unfold KO at hf
    obtain ⟨who, r0, e0, b0, f0⟩ := Fits.int hf
    obtain ⟨kd, r1, rfl, b1, f1⟩ := Fits.int f0
    obtain ⟨I, r2, rfl, b2, f2⟩ := Fits.int f1
    obtain ⟨J, r3, rfl, b3, f3⟩ := Fits.int f2
    obtain ⟨fr, r4, rfl, b4, f4⟩ := Fits.int f3
    obtain ⟨to, r5, rfl, b5, f5⟩ := Fits.int f4
    obtain ⟨s, r6, rfl, b6, f6⟩ := Fits.str f5
    obtain rfl := Fits.nil f6
    have g2G : (G i)[2]? = some (.int .i64 I) := by rw [e0]; rfl
    obtain ⟨st, hst⟩ : ∃ st : List A, st = G i := ⟨_, rfl⟩
    rw [← hst] at hro
    rw [e0] at hst
    obtain ⟨fr, rfl⟩ := u8_of b4
    obtain ⟨to, rfl⟩ := u8_of b5
    have hsl : st.length = 7 := by rw [hst]; rfl
    have hsp : Pl st := by rw [hst]; exact ⟨fun _ => rfl, fun _ => rfl⟩
    have g1 : st[1]? = some (.int .i64 kd) := by rw [hst]; rfl
    have g2 : st[2]? = some (.int .i64 I) := by rw [hst]; rfl
    have g3 : st[3]? = some (.int .i64 J) := by rw [hst]; rfl
    have g4 : st[4]? = some (.int .u8 (fr.toNat : Int)) := by rw [hst]; rfl
    have g5 : st[5]? = some (.int .u8 (to.toNat : Int)) := by rw [hst]; rfl
    have g6 : st[6]? = some (.str s) := by rw [hst]; rfl
    have ld : ∀ j y, st[j]? = some y → roOf W ((p.add (i * 7)).add j) y := fun j y h => by rw [addr_add_add]; exact hro j y h
    have hw := wrapi (i := i) (by omega)
    clear hro hst e0 b0 b1 b2 b3 b4 b5 b6 f0 f1 f2 f3 f4 f5 f6 hf hG
    have hI : decide (I ≥ 0) = false ∨ (decide (I ≥ 0) = true ∧ decide (I < 0) = false) := by
      simp only [decide_eq_true_eq, decide_eq_false_iff_not]; omega
    rcases hI with d1 | ⟨d1, d2⟩
    all_goals
      conv => whnf
      repeat' (first
        | rw [← hz7]
        | (rw [d2]; conv => whnf)
        | (rw [c8]; conv => whnf)
        | (rw [d4]; conv => whnf)
        | ((with_reducible refine regx_of ?_ ?_); (· decide +kernel); conv => whnf)
        | ((with_reducible refine growx_pre ?_ ?_); (· exact ⟨_, rfl⟩); conv => whnf)
        | ((with_reducible refine needm_of ?_ ?_); (· first | assumption | exact decide_eq_true (by omega) | decide +kernel | (refine decide_eq_true ?_; simp (disch := omega) only [i64w]; omega)); conv => whnf)
        | ((with_reducible refine condm_pos ?_ ?_); (· assumption); conv => whnf)
        | ((with_reducible refine condm_neg ?_ ?_); (· assumption); conv => whnf)
        | ((with_reducible refine forceL_fv (by assumption) ?_); conv => whnf)
        | ((with_reducible refine forceL_rfv (by assumption) ?_); conv => whnf)
        | ((with_reducible refine forceNm_of ?_); conv => whnf)
        | ((with_reducible refine needm_of (fv_lenL (by assumption) (by assumption)) ?_); conv => whnf)
        | ((with_reducible refine optm_var (fv_strL (by assumption) (by assumption)) (fun s hs => ?_)); conv => whnf)
        | ((with_reducible refine forceA_of ?_); conv => whnf)
        | ((with_reducible refine forceL_pl (by assumption) ?_); conv => whnf)
        | ((with_reducible refine forceL_rpl (by assumption) ?_); conv => whnf)
        | (refine ⟨st, hsl, ld, ?_⟩; conv => whnf)
        | ((with_reducible refine needm_of ?_ ?_); (· first | (rw [hsl, hzl]; rfl) | (rw [hsl]; rfl) | (rw [hzl]; rfl)); conv => whnf)
        | ((with_reducible refine forceL_to (whole_of ?_) ?_); (· rw [hsl]; rfl); conv => whnf)
        | ((with_reducible refine forceL_to (store_all ?_) ?_); (· rw [hsl, hzl]); conv => whnf)
        | ((with_reducible refine optm_of g1 ?_); conv => whnf)
        | ((with_reducible refine optm_of g2 ?_); conv => whnf)
        | ((with_reducible refine optm_of g3 ?_); conv => whnf)
        | ((with_reducible refine optm_of g4 ?_); conv => whnf)
        | ((with_reducible refine optm_of g5 ?_); conv => whnf)
        | ((with_reducible refine optm_of g6 ?_); conv => whnf)
        | fail)
      refine Go.Eng.Fn.frame [0] (by rfl) (by exact ⟨rfl, trivial⟩) (by rfl) (look15n room I ?_)
      conv => whnf
      repeat' (first
        | rw [← hz7]
        | (rw [d2]; conv => whnf)
        | (rw [c8]; conv => whnf)
        | (rw [d4]; conv => whnf)
        | ((with_reducible refine regx_of ?_ ?_); (· decide +kernel); conv => whnf)
        | ((with_reducible refine growx_pre ?_ ?_); (· exact ⟨_, rfl⟩); conv => whnf)
        | ((with_reducible refine needm_of ?_ ?_); (· first | assumption | exact decide_eq_true (by omega) | decide +kernel | (refine decide_eq_true ?_; simp (disch := omega) only [i64w]; omega)); conv => whnf)
        | ((with_reducible refine condm_pos ?_ ?_); (· assumption); conv => whnf)
        | ((with_reducible refine condm_neg ?_ ?_); (· assumption); conv => whnf)
        | ((with_reducible refine forceL_fv (by assumption) ?_); conv => whnf)
        | ((with_reducible refine forceL_rfv (by assumption) ?_); conv => whnf)
        | ((with_reducible refine forceNm_of ?_); conv => whnf)
        | ((with_reducible refine needm_of (fv_lenL (by assumption) (by assumption)) ?_); conv => whnf)
        | ((with_reducible refine optm_var (fv_strL (by assumption) (by assumption)) (fun s hs => ?_)); conv => whnf)
        | ((with_reducible refine forceA_of ?_); conv => whnf)
        | ((with_reducible refine forceL_pl (by assumption) ?_); conv => whnf)
        | ((with_reducible refine forceL_rpl (by assumption) ?_); conv => whnf)
        | (refine ⟨st, hsl, ld, ?_⟩; conv => whnf)
        | ((with_reducible refine needm_of ?_ ?_); (· first | (rw [hsl, hzl]; rfl) | (rw [hsl]; rfl) | (rw [hzl]; rfl)); conv => whnf)
        | ((with_reducible refine forceL_to (whole_of ?_) ?_); (· rw [hsl]; rfl); conv => whnf)
        | ((with_reducible refine forceL_to (store_all ?_) ?_); (· rw [hsl, hzl]); conv => whnf)
        | ((with_reducible refine optm_of g1 ?_); conv => whnf)
        | ((with_reducible refine optm_of g2 ?_); conv => whnf)
        | ((with_reducible refine optm_of g3 ?_); conv => whnf)
        | ((with_reducible refine optm_of g4 ?_); conv => whnf)
        | ((with_reducible refine optm_of g5 ?_); conv => whnf)
        | ((with_reducible refine optm_of g6 ?_); conv => whnf)
        | fail)
      refine Go.Eng.Fn.frame [0] (by rfl) (by exact ⟨rfl, trivial⟩) (by rfl) (len14n room ?_)
      rcases kinds kd with rfl | rfl | rfl | rfl | rfl | rfl | ⟨k0, k2, k3, k4, k5, k6⟩
      ·
        conv => whnf
        repeat' (first
          | rw [← hz7]
          | (rw [d2]; conv => whnf)
          | (rw [c8]; conv => whnf)
          | (rw [d4]; conv => whnf)
          | ((with_reducible refine regx_of ?_ ?_); (· decide +kernel); conv => whnf)
          | ((with_reducible refine growx_pre ?_ ?_); (· exact ⟨_, rfl⟩); conv => whnf)
          | ((with_reducible refine needm_of ?_ ?_); (· first | assumption | exact decide_eq_true (by omega) | decide +kernel | (refine decide_eq_true ?_; simp (disch := omega) only [i64w]; omega)); conv => whnf)
          | ((with_reducible refine condm_pos ?_ ?_); (· assumption); conv => whnf)
          | ((with_reducible refine condm_neg ?_ ?_); (· assumption); conv => whnf)
          | ((with_reducible refine forceL_fv (by assumption) ?_); conv => whnf)
          | ((with_reducible refine forceL_rfv (by assumption) ?_); conv => whnf)
          | ((with_reducible refine forceNm_of ?_); conv => whnf)
          | ((with_reducible refine needm_of (fv_lenL (by assumption) (by assumption)) ?_); conv => whnf)
          | ((with_reducible refine optm_var (fv_strL (by assumption) (by assumption)) (fun s hs => ?_)); conv => whnf)
          | ((with_reducible refine forceA_of ?_); conv => whnf)
          | ((with_reducible refine forceL_pl (by assumption) ?_); conv => whnf)
          | ((with_reducible refine forceL_rpl (by assumption) ?_); conv => whnf)
          | (refine ⟨st, hsl, ld, ?_⟩; conv => whnf)
          | ((with_reducible refine needm_of ?_ ?_); (· first | (rw [hsl, hzl]; rfl) | (rw [hsl]; rfl) | (rw [hzl]; rfl)); conv => whnf)
          | ((with_reducible refine forceL_to (whole_of ?_) ?_); (· rw [hsl]; rfl); conv => whnf)
          | ((with_reducible refine forceL_to (store_all ?_) ?_); (· rw [hsl, hzl]); conv => whnf)
          | ((with_reducible refine optm_of g1 ?_); conv => whnf)
          | ((with_reducible refine optm_of g2 ?_); conv => whnf)
          | ((with_reducible refine optm_of g3 ?_); conv => whnf)
          | ((with_reducible refine optm_of g4 ?_); conv => whnf)
          | ((with_reducible refine optm_of g5 ?_); conv => whnf)
          | ((with_reducible refine optm_of g6 ?_); conv => whnf)
          | fail)
        refine Go.Eng.Fn.frame [0] (by rfl) (by exact ⟨rfl, trivial⟩) (by rfl) (send9n room hr1 fr to s (fun h9 => ?_) (fun h9 y cs cap' mk hcs hcap => ?_))
        · rcases fits_no h9 with q1 | ⟨q1, q2⟩ | ⟨q1, q2, q3⟩ | ⟨q1, q2, q3, q4⟩
          all_goals
            conv => whnf
            repeat' (first
              | rw [← hz7]
              | (rw [d2]; conv => whnf)
              | (rw [c8]; conv => whnf)
              | (rw [d4]; conv => whnf)
              | ((with_reducible refine regx_of ?_ ?_); (· decide +kernel); conv => whnf)
              | ((with_reducible refine growx_pre ?_ ?_); (· exact ⟨_, rfl⟩); conv => whnf)
              | ((with_reducible refine needm_of ?_ ?_); (· first | assumption | exact decide_eq_true (by omega) | decide +kernel | (refine decide_eq_true ?_; simp (disch := omega) only [i64w]; omega)); conv => whnf)
              | ((with_reducible refine condm_pos ?_ ?_); (· assumption); conv => whnf)
              | ((with_reducible refine condm_neg ?_ ?_); (· assumption); conv => whnf)
              | ((with_reducible refine forceL_fv (by assumption) ?_); conv => whnf)
              | ((with_reducible refine forceL_rfv (by assumption) ?_); conv => whnf)
              | ((with_reducible refine forceNm_of ?_); conv => whnf)
              | ((with_reducible refine needm_of (fv_lenL (by assumption) (by assumption)) ?_); conv => whnf)
              | ((with_reducible refine optm_var (fv_strL (by assumption) (by assumption)) (fun s hs => ?_)); conv => whnf)
              | ((with_reducible refine forceA_of ?_); conv => whnf)
              | ((with_reducible refine forceL_pl (by assumption) ?_); conv => whnf)
              | ((with_reducible refine forceL_rpl (by assumption) ?_); conv => whnf)
              | (refine ⟨st, hsl, ld, ?_⟩; conv => whnf)
              | ((with_reducible refine needm_of ?_ ?_); (· first | (rw [hsl, hzl]; rfl) | (rw [hsl]; rfl) | (rw [hzl]; rfl)); conv => whnf)
              | ((with_reducible refine forceL_to (whole_of ?_) ?_); (· rw [hsl]; rfl); conv => whnf)
              | ((with_reducible refine forceL_to (store_all ?_) ?_); (· rw [hsl, hzl]); conv => whnf)
              | ((with_reducible refine optm_of g1 ?_); conv => whnf)
              | ((with_reducible refine optm_of g2 ?_); conv => whnf)
              | ((with_reducible refine optm_of g3 ?_); conv => whnf)
              | ((with_reducible refine optm_of g4 ?_); conv => whnf)
              | ((with_reducible refine optm_of g5 ?_); conv => whnf)
              | ((with_reducible refine optm_of g6 ?_); conv => whnf)
              | fail)
            refine Go.Eng.Fn.frame [] (by rfl) (by exact trivial) (by rfl) (sound22n ?_)
            conv => whnf
            repeat' (first
              | rw [← hz7]
              | (rw [d2]; conv => whnf)
              | (rw [c8]; conv => whnf)
              | (rw [d4]; conv => whnf)
              | ((with_reducible refine regx_of ?_ ?_); (· decide +kernel); conv => whnf)
              | ((with_reducible refine growx_pre ?_ ?_); (· exact ⟨_, rfl⟩); conv => whnf)
              | ((with_reducible refine needm_of ?_ ?_); (· first | assumption | exact decide_eq_true (by omega) | decide +kernel | (refine decide_eq_true ?_; simp (disch := omega) only [i64w]; omega)); conv => whnf)
              | ((with_reducible refine condm_pos ?_ ?_); (· assumption); conv => whnf)
              | ((with_reducible refine condm_neg ?_ ?_); (· assumption); conv => whnf)
              | ((with_reducible refine forceL_fv (by assumption) ?_); conv => whnf)
              | ((with_reducible refine forceL_rfv (by assumption) ?_); conv => whnf)
              | ((with_reducible refine forceNm_of ?_); conv => whnf)
              | ((with_reducible refine needm_of (fv_lenL (by assumption) (by assumption)) ?_); conv => whnf)
              | ((with_reducible refine optm_var (fv_strL (by assumption) (by assumption)) (fun s hs => ?_)); conv => whnf)
              | ((with_reducible refine forceA_of ?_); conv => whnf)
              | ((with_reducible refine forceL_pl (by assumption) ?_); conv => whnf)
              | ((with_reducible refine forceL_rpl (by assumption) ?_); conv => whnf)
              | (refine ⟨st, hsl, ld, ?_⟩; conv => whnf)
              | ((with_reducible refine needm_of ?_ ?_); (· first | (rw [hsl, hzl]; rfl) | (rw [hsl]; rfl) | (rw [hzl]; rfl)); conv => whnf)
              | ((with_reducible refine forceL_to (whole_of ?_) ?_); (· rw [hsl]; rfl); conv => whnf)
              | ((with_reducible refine forceL_to (store_all ?_) ?_); (· rw [hsl, hzl]); conv => whnf)
              | ((with_reducible refine optm_of g1 ?_); conv => whnf)
              | ((with_reducible refine optm_of g2 ?_); conv => whnf)
              | ((with_reducible refine optm_of g3 ?_); conv => whnf)
              | ((with_reducible refine optm_of g4 ?_); conv => whnf)
              | ((with_reducible refine optm_of g5 ?_); conv => whnf)
              | ((with_reducible refine optm_of g6 ?_); conv => whnf)
              | fail)
            refine ⟨len - (i + 1), by omega, Into.weak [0] (F6 room (.rslc p len cap) .nils _) [.cells [.int .i64 room, .nils] 57 false] ?_ ⟨rfl, rfl, rfl, rfl, rfl, trivial⟩ ⟨rfl, trivial⟩ rfl⟩
            exact ⟨i + 1, .nils, by omega, rfl, congrArg (F6 _ _ _) hw, .inl ⟨rfl, rfl⟩⟩
        · have hp := Pl.fls hcs
          obtain ⟨q1, q2, q3, q4⟩ := fits_yes h9
          conv => whnf
          repeat' (first
            | rw [← hz7]
            | (rw [d2]; conv => whnf)
            | (rw [c8]; conv => whnf)
            | (rw [d4]; conv => whnf)
            | ((with_reducible refine regx_of ?_ ?_); (· decide +kernel); conv => whnf)
            | ((with_reducible refine growx_pre ?_ ?_); (· exact ⟨_, rfl⟩); conv => whnf)
            | ((with_reducible refine needm_of ?_ ?_); (· first | assumption | exact decide_eq_true (by omega) | decide +kernel | (refine decide_eq_true ?_; simp (disch := omega) only [i64w]; omega)); conv => whnf)
            | ((with_reducible refine condm_pos ?_ ?_); (· assumption); conv => whnf)
            | ((with_reducible refine condm_neg ?_ ?_); (· assumption); conv => whnf)
            | ((with_reducible refine forceL_fv (by assumption) ?_); conv => whnf)
            | ((with_reducible refine forceL_rfv (by assumption) ?_); conv => whnf)
            | ((with_reducible refine forceNm_of ?_); conv => whnf)
            | ((with_reducible refine needm_of (fv_lenL (by assumption) (by assumption)) ?_); conv => whnf)
            | ((with_reducible refine optm_var (fv_strL (by assumption) (by assumption)) (fun s hs => ?_)); conv => whnf)
            | ((with_reducible refine forceA_of ?_); conv => whnf)
            | ((with_reducible refine forceL_pl (by assumption) ?_); conv => whnf)
            | ((with_reducible refine forceL_rpl (by assumption) ?_); conv => whnf)
            | (refine ⟨st, hsl, ld, ?_⟩; conv => whnf)
            | ((with_reducible refine needm_of ?_ ?_); (· first | (rw [hsl, hzl]; rfl) | (rw [hsl]; rfl) | (rw [hzl]; rfl)); conv => whnf)
            | ((with_reducible refine forceL_to (whole_of ?_) ?_); (· rw [hsl]; rfl); conv => whnf)
            | ((with_reducible refine forceL_to (store_all ?_) ?_); (· rw [hsl, hzl]); conv => whnf)
            | ((with_reducible refine optm_of g1 ?_); conv => whnf)
            | ((with_reducible refine optm_of g2 ?_); conv => whnf)
            | ((with_reducible refine optm_of g3 ?_); conv => whnf)
            | ((with_reducible refine optm_of g4 ?_); conv => whnf)
            | ((with_reducible refine optm_of g5 ?_); conv => whnf)
            | ((with_reducible refine optm_of g6 ?_); conv => whnf)
            | fail)
          rw [c00]
          conv => whnf
          repeat' (first
            | rw [← hz7]
            | (rw [d2]; conv => whnf)
            | (rw [c8]; conv => whnf)
            | (rw [d4]; conv => whnf)
            | ((with_reducible refine regx_of ?_ ?_); (· decide +kernel); conv => whnf)
            | ((with_reducible refine growx_pre ?_ ?_); (· exact ⟨_, rfl⟩); conv => whnf)
            | ((with_reducible refine needm_of ?_ ?_); (· first | assumption | exact decide_eq_true (by omega) | decide +kernel | (refine decide_eq_true ?_; simp (disch := omega) only [i64w]; omega)); conv => whnf)
            | ((with_reducible refine condm_pos ?_ ?_); (· assumption); conv => whnf)
            | ((with_reducible refine condm_neg ?_ ?_); (· assumption); conv => whnf)
            | ((with_reducible refine forceL_fv (by assumption) ?_); conv => whnf)
            | ((with_reducible refine forceL_rfv (by assumption) ?_); conv => whnf)
            | ((with_reducible refine forceNm_of ?_); conv => whnf)
            | ((with_reducible refine needm_of (fv_lenL (by assumption) (by assumption)) ?_); conv => whnf)
            | ((with_reducible refine optm_var (fv_strL (by assumption) (by assumption)) (fun s hs => ?_)); conv => whnf)
            | ((with_reducible refine forceA_of ?_); conv => whnf)
            | ((with_reducible refine forceL_pl (by assumption) ?_); conv => whnf)
            | ((with_reducible refine forceL_rpl (by assumption) ?_); conv => whnf)
            | (refine ⟨st, hsl, ld, ?_⟩; conv => whnf)
            | ((with_reducible refine needm_of ?_ ?_); (· first | (rw [hsl, hzl]; rfl) | (rw [hsl]; rfl) | (rw [hzl]; rfl)); conv => whnf)
            | ((with_reducible refine forceL_to (whole_of ?_) ?_); (· rw [hsl]; rfl); conv => whnf)
            | ((with_reducible refine forceL_to (store_all ?_) ?_); (· rw [hsl, hzl]); conv => whnf)
            | ((with_reducible refine optm_of g1 ?_); conv => whnf)
            | ((with_reducible refine optm_of g2 ?_); conv => whnf)
            | ((with_reducible refine optm_of g3 ?_); conv => whnf)
            | ((with_reducible refine optm_of g4 ?_); conv => whnf)
            | ((with_reducible refine optm_of g5 ?_); conv => whnf)
            | ((with_reducible refine optm_of g6 ?_); conv => whnf)
            | fail)
          refine Go.Eng.Fn.frame [] (by rfl) (by exact trivial) (by rfl) (add21n ⟨fr, to, s⟩ 1 _ rfl (fun z cc kap mc hcc hkap => ?_))
          have hpc := Pl.cfs hcc
          have hC1 : Cnt [⟨fr, to, s⟩] [⟨⟨fr, to, s⟩, 1⟩] := Cnt.nil.fresh (fun _ h => by cases h)
          conv => whnf
          repeat' (first
            | rw [← hz7]
            | (rw [d2]; conv => whnf)
            | (rw [c8]; conv => whnf)
            | (rw [d4]; conv => whnf)
            | ((with_reducible refine regx_of ?_ ?_); (· decide +kernel); conv => whnf)
            | ((with_reducible refine growx_pre ?_ ?_); (· exact ⟨_, rfl⟩); conv => whnf)
            | ((with_reducible refine needm_of ?_ ?_); (· first | assumption | exact decide_eq_true (by omega) | decide +kernel | (refine decide_eq_true ?_; simp (disch := omega) only [i64w]; omega)); conv => whnf)
            | ((with_reducible refine condm_pos ?_ ?_); (· assumption); conv => whnf)
            | ((with_reducible refine condm_neg ?_ ?_); (· assumption); conv => whnf)
            | ((with_reducible refine forceL_fv (by assumption) ?_); conv => whnf)
            | ((with_reducible refine forceL_rfv (by assumption) ?_); conv => whnf)
            | ((with_reducible refine forceNm_of ?_); conv => whnf)
            | ((with_reducible refine needm_of (fv_lenL (by assumption) (by assumption)) ?_); conv => whnf)
            | ((with_reducible refine optm_var (fv_strL (by assumption) (by assumption)) (fun s hs => ?_)); conv => whnf)
            | ((with_reducible refine forceA_of ?_); conv => whnf)
            | ((with_reducible refine forceL_pl (by assumption) ?_); conv => whnf)
            | ((with_reducible refine forceL_rpl (by assumption) ?_); conv => whnf)
            | (refine ⟨st, hsl, ld, ?_⟩; conv => whnf)
            | ((with_reducible refine needm_of ?_ ?_); (· first | (rw [hsl, hzl]; rfl) | (rw [hsl]; rfl) | (rw [hzl]; rfl)); conv => whnf)
            | ((with_reducible refine forceL_to (whole_of ?_) ?_); (· rw [hsl]; rfl); conv => whnf)
            | ((with_reducible refine forceL_to (store_all ?_) ?_); (· rw [hsl, hzl]); conv => whnf)
            | ((with_reducible refine optm_of g1 ?_); conv => whnf)
            | ((with_reducible refine optm_of g2 ?_); conv => whnf)
            | ((with_reducible refine optm_of g3 ?_); conv => whnf)
            | ((with_reducible refine optm_of g4 ?_); conv => whnf)
            | ((with_reducible refine optm_of g5 ?_); conv => whnf)
            | ((with_reducible refine optm_of g6 ?_); conv => whnf)
            | fail)
          refine Go.Eng.Fn.frame [3] (by rfl) (by exact ⟨ren_pl hpc _ _ _, trivial⟩) (by simp [nodupb, V.okb, A.okb, Ob.okb, hpc.2] <;> decide) (sound22 [⟨⟨fr, to, s⟩, 1⟩] z cc 1 kap mc hcc rfl (by simp) hC1.ge ?_)
          conv => whnf
          repeat' (first
            | rw [← hz7]
            | (rw [d2]; conv => whnf)
            | (rw [c8]; conv => whnf)
            | (rw [d4]; conv => whnf)
            | ((with_reducible refine regx_of ?_ ?_); (· decide +kernel); conv => whnf)
            | ((with_reducible refine growx_pre ?_ ?_); (· exact ⟨_, rfl⟩); conv => whnf)
            | ((with_reducible refine needm_of ?_ ?_); (· first | assumption | exact decide_eq_true (by omega) | decide +kernel | (refine decide_eq_true ?_; simp (disch := omega) only [i64w]; omega)); conv => whnf)
            | ((with_reducible refine condm_pos ?_ ?_); (· assumption); conv => whnf)
            | ((with_reducible refine condm_neg ?_ ?_); (· assumption); conv => whnf)
            | ((with_reducible refine forceL_fv (by assumption) ?_); conv => whnf)
            | ((with_reducible refine forceL_rfv (by assumption) ?_); conv => whnf)
            | ((with_reducible refine forceNm_of ?_); conv => whnf)
            | ((with_reducible refine needm_of (fv_lenL (by assumption) (by assumption)) ?_); conv => whnf)
            | ((with_reducible refine optm_var (fv_strL (by assumption) (by assumption)) (fun s hs => ?_)); conv => whnf)
            | ((with_reducible refine forceA_of ?_); conv => whnf)
            | ((with_reducible refine forceL_pl (by assumption) ?_); conv => whnf)
            | ((with_reducible refine forceL_rpl (by assumption) ?_); conv => whnf)
            | (refine ⟨st, hsl, ld, ?_⟩; conv => whnf)
            | ((with_reducible refine needm_of ?_ ?_); (· first | (rw [hsl, hzl]; rfl) | (rw [hsl]; rfl) | (rw [hzl]; rfl)); conv => whnf)
            | ((with_reducible refine forceL_to (whole_of ?_) ?_); (· rw [hsl]; rfl); conv => whnf)
            | ((with_reducible refine forceL_to (store_all ?_) ?_); (· rw [hsl, hzl]); conv => whnf)
            | ((with_reducible refine optm_of g1 ?_); conv => whnf)
            | ((with_reducible refine optm_of g2 ?_); conv => whnf)
            | ((with_reducible refine optm_of g3 ?_); conv => whnf)
            | ((with_reducible refine optm_of g4 ?_); conv => whnf)
            | ((with_reducible refine optm_of g5 ?_); conv => whnf)
            | ((with_reducible refine optm_of g6 ?_); conv => whnf)
            | fail)
          refine ⟨len - (i + 1), by omega, Into.weak [0, 2, 3] (F6 room (.rslc p len cap) (.slc 2 0 1 kap) _) [.cells [.int .i64 room, .slc 1 0 1 cap'] 57 false, .cells cs 61 mk, .cells cc 53 mc] ?_ ⟨rfl, rfl, rfl, rfl, rfl, trivial⟩ ⟨rfl, ren_pl hp _ _ _, ren_pl hpc _ _ _, trivial⟩ (by simp [nodupb, baseb, Ob.okb, frmOk, V.okb, A.okb, hp.2, hpc.2] <;> decide)⟩
          exact ⟨i + 1, _, by omega, rfl, congrArg (F6 _ _ _) hw, InK.b [⟨fr, to, s⟩] y [⟨⟨fr, to, s⟩, 1⟩] z rfl rfl hcs hcap hr1 hcc hkap (by simp) hC1⟩
      ·
        conv => whnf
        repeat' (first
          | rw [← hz7]
          | (rw [d2]; conv => whnf)
          | (rw [c8]; conv => whnf)
          | (rw [d4]; conv => whnf)
          | ((with_reducible refine regx_of ?_ ?_); (· decide +kernel); conv => whnf)
          | ((with_reducible refine growx_pre ?_ ?_); (· exact ⟨_, rfl⟩); conv => whnf)
          | ((with_reducible refine needm_of ?_ ?_); (· first | assumption | exact decide_eq_true (by omega) | decide +kernel | (refine decide_eq_true ?_; simp (disch := omega) only [i64w]; omega)); conv => whnf)
          | ((with_reducible refine condm_pos ?_ ?_); (· assumption); conv => whnf)
          | ((with_reducible refine condm_neg ?_ ?_); (· assumption); conv => whnf)
          | ((with_reducible refine forceL_fv (by assumption) ?_); conv => whnf)
          | ((with_reducible refine forceL_rfv (by assumption) ?_); conv => whnf)
          | ((with_reducible refine forceNm_of ?_); conv => whnf)
          | ((with_reducible refine needm_of (fv_lenL (by assumption) (by assumption)) ?_); conv => whnf)
          | ((with_reducible refine optm_var (fv_strL (by assumption) (by assumption)) (fun s hs => ?_)); conv => whnf)
          | ((with_reducible refine forceA_of ?_); conv => whnf)
          | ((with_reducible refine forceL_pl (by assumption) ?_); conv => whnf)
          | ((with_reducible refine forceL_rpl (by assumption) ?_); conv => whnf)
          | (refine ⟨st, hsl, ld, ?_⟩; conv => whnf)
          | ((with_reducible refine needm_of ?_ ?_); (· first | (rw [hsl, hzl]; rfl) | (rw [hsl]; rfl) | (rw [hzl]; rfl)); conv => whnf)
          | ((with_reducible refine forceL_to (whole_of ?_) ?_); (· rw [hsl]; rfl); conv => whnf)
          | ((with_reducible refine forceL_to (store_all ?_) ?_); (· rw [hsl, hzl]); conv => whnf)
          | ((with_reducible refine optm_of g1 ?_); conv => whnf)
          | ((with_reducible refine optm_of g2 ?_); conv => whnf)
          | ((with_reducible refine optm_of g3 ?_); conv => whnf)
          | ((with_reducible refine optm_of g4 ?_); conv => whnf)
          | ((with_reducible refine optm_of g5 ?_); conv => whnf)
          | ((with_reducible refine optm_of g6 ?_); conv => whnf)
          | fail)
        refine Go.Eng.Fn.frame [0] (by rfl) (by exact ⟨rfl, trivial⟩) (by rfl) (deliver11n room I ?_)
        conv => whnf
        repeat' (first
          | rw [← hz7]
          | (rw [d2]; conv => whnf)
          | (rw [c8]; conv => whnf)
          | (rw [d4]; conv => whnf)
          | ((with_reducible refine regx_of ?_ ?_); (· decide +kernel); conv => whnf)
          | ((with_reducible refine growx_pre ?_ ?_); (· exact ⟨_, rfl⟩); conv => whnf)
          | ((with_reducible refine needm_of ?_ ?_); (· first | assumption | exact decide_eq_true (by omega) | decide +kernel | (refine decide_eq_true ?_; simp (disch := omega) only [i64w]; omega)); conv => whnf)
          | ((with_reducible refine condm_pos ?_ ?_); (· assumption); conv => whnf)
          | ((with_reducible refine condm_neg ?_ ?_); (· assumption); conv => whnf)
          | ((with_reducible refine forceL_fv (by assumption) ?_); conv => whnf)
          | ((with_reducible refine forceL_rfv (by assumption) ?_); conv => whnf)
          | ((with_reducible refine forceNm_of ?_); conv => whnf)
          | ((with_reducible refine needm_of (fv_lenL (by assumption) (by assumption)) ?_); conv => whnf)
          | ((with_reducible refine optm_var (fv_strL (by assumption) (by assumption)) (fun s hs => ?_)); conv => whnf)
          | ((with_reducible refine forceA_of ?_); conv => whnf)
          | ((with_reducible refine forceL_pl (by assumption) ?_); conv => whnf)
          | ((with_reducible refine forceL_rpl (by assumption) ?_); conv => whnf)
          | (refine ⟨st, hsl, ld, ?_⟩; conv => whnf)
          | ((with_reducible refine needm_of ?_ ?_); (· first | (rw [hsl, hzl]; rfl) | (rw [hsl]; rfl) | (rw [hzl]; rfl)); conv => whnf)
          | ((with_reducible refine forceL_to (whole_of ?_) ?_); (· rw [hsl]; rfl); conv => whnf)
          | ((with_reducible refine forceL_to (store_all ?_) ?_); (· rw [hsl, hzl]); conv => whnf)
          | ((with_reducible refine optm_of g1 ?_); conv => whnf)
          | ((with_reducible refine optm_of g2 ?_); conv => whnf)
          | ((with_reducible refine optm_of g3 ?_); conv => whnf)
          | ((with_reducible refine optm_of g4 ?_); conv => whnf)
          | ((with_reducible refine optm_of g5 ?_); conv => whnf)
          | ((with_reducible refine optm_of g6 ?_); conv => whnf)
          | fail)
        refine Go.Eng.Fn.frame [] (by rfl) (by exact trivial) (by rfl) (sound22n ?_)
        conv => whnf
        repeat' (first
          | rw [← hz7]
          | (rw [d2]; conv => whnf)
          | (rw [c8]; conv => whnf)
          | (rw [d4]; conv => whnf)
          | ((with_reducible refine regx_of ?_ ?_); (· decide +kernel); conv => whnf)
          | ((with_reducible refine growx_pre ?_ ?_); (· exact ⟨_, rfl⟩); conv => whnf)
          | ((with_reducible refine needm_of ?_ ?_); (· first | assumption | exact decide_eq_true (by omega) | decide +kernel | (refine decide_eq_true ?_; simp (disch := omega) only [i64w]; omega)); conv => whnf)
          | ((with_reducible refine condm_pos ?_ ?_); (· assumption); conv => whnf)
          | ((with_reducible refine condm_neg ?_ ?_); (· assumption); conv => whnf)
          | ((with_reducible refine forceL_fv (by assumption) ?_); conv => whnf)
          | ((with_reducible refine forceL_rfv (by assumption) ?_); conv => whnf)
          | ((with_reducible refine forceNm_of ?_); conv => whnf)
          | ((with_reducible refine needm_of (fv_lenL (by assumption) (by assumption)) ?_); conv => whnf)
          | ((with_reducible refine optm_var (fv_strL (by assumption) (by assumption)) (fun s hs => ?_)); conv => whnf)
          | ((with_reducible refine forceA_of ?_); conv => whnf)
          | ((with_reducible refine forceL_pl (by assumption) ?_); conv => whnf)
          | ((with_reducible refine forceL_rpl (by assumption) ?_); conv => whnf)
          | (refine ⟨st, hsl, ld, ?_⟩; conv => whnf)
          | ((with_reducible refine needm_of ?_ ?_); (· first | (rw [hsl, hzl]; rfl) | (rw [hsl]; rfl) | (rw [hzl]; rfl)); conv => whnf)
          | ((with_reducible refine forceL_to (whole_of ?_) ?_); (· rw [hsl]; rfl); conv => whnf)
          | ((with_reducible refine forceL_to (store_all ?_) ?_); (· rw [hsl, hzl]); conv => whnf)
          | ((with_reducible refine optm_of g1 ?_); conv => whnf)
          | ((with_reducible refine optm_of g2 ?_); conv => whnf)
          | ((with_reducible refine optm_of g3 ?_); conv => whnf)
          | ((with_reducible refine optm_of g4 ?_); conv => whnf)
          | ((with_reducible refine optm_of g5 ?_); conv => whnf)
          | ((with_reducible refine optm_of g6 ?_); conv => whnf)
          | fail)
        refine ⟨len - (i + 1), by omega, Into.weak [0] (F6 room (.rslc p len cap) .nils _) [.cells [.int .i64 room, .nils] 57 false] ?_ ⟨rfl, rfl, rfl, rfl, rfl, trivial⟩ ⟨rfl, trivial⟩ rfl⟩
        exact ⟨i + 1, .nils, by omega, rfl, congrArg (F6 _ _ _) hw, .inl ⟨rfl, rfl⟩⟩
      ·
        conv => whnf
        repeat' (first
          | rw [← hz7]
          | (rw [d2]; conv => whnf)
          | (rw [c8]; conv => whnf)
          | (rw [d4]; conv => whnf)
          | ((with_reducible refine regx_of ?_ ?_); (· decide +kernel); conv => whnf)
          | ((with_reducible refine growx_pre ?_ ?_); (· exact ⟨_, rfl⟩); conv => whnf)
          | ((with_reducible refine needm_of ?_ ?_); (· first | assumption | exact decide_eq_true (by omega) | decide +kernel | (refine decide_eq_true ?_; simp (disch := omega) only [i64w]; omega)); conv => whnf)
          | ((with_reducible refine condm_pos ?_ ?_); (· assumption); conv => whnf)
          | ((with_reducible refine condm_neg ?_ ?_); (· assumption); conv => whnf)
          | ((with_reducible refine forceL_fv (by assumption) ?_); conv => whnf)
          | ((with_reducible refine forceL_rfv (by assumption) ?_); conv => whnf)
          | ((with_reducible refine forceNm_of ?_); conv => whnf)
          | ((with_reducible refine needm_of (fv_lenL (by assumption) (by assumption)) ?_); conv => whnf)
          | ((with_reducible refine optm_var (fv_strL (by assumption) (by assumption)) (fun s hs => ?_)); conv => whnf)
          | ((with_reducible refine forceA_of ?_); conv => whnf)
          | ((with_reducible refine forceL_pl (by assumption) ?_); conv => whnf)
          | ((with_reducible refine forceL_rpl (by assumption) ?_); conv => whnf)
          | (refine ⟨st, hsl, ld, ?_⟩; conv => whnf)
          | ((with_reducible refine needm_of ?_ ?_); (· first | (rw [hsl, hzl]; rfl) | (rw [hsl]; rfl) | (rw [hzl]; rfl)); conv => whnf)
          | ((with_reducible refine forceL_to (whole_of ?_) ?_); (· rw [hsl]; rfl); conv => whnf)
          | ((with_reducible refine forceL_to (store_all ?_) ?_); (· rw [hsl, hzl]); conv => whnf)
          | ((with_reducible refine optm_of g1 ?_); conv => whnf)
          | ((with_reducible refine optm_of g2 ?_); conv => whnf)
          | ((with_reducible refine optm_of g3 ?_); conv => whnf)
          | ((with_reducible refine optm_of g4 ?_); conv => whnf)
          | ((with_reducible refine optm_of g5 ?_); conv => whnf)
          | ((with_reducible refine optm_of g6 ?_); conv => whnf)
          | fail)
        refine Go.Eng.Fn.frame [0] (by rfl) (by exact ⟨rfl, trivial⟩) (by rfl) (drop12n room I ?_)
        conv => whnf
        repeat' (first
          | rw [← hz7]
          | (rw [d2]; conv => whnf)
          | (rw [c8]; conv => whnf)
          | (rw [d4]; conv => whnf)
          | ((with_reducible refine regx_of ?_ ?_); (· decide +kernel); conv => whnf)
          | ((with_reducible refine growx_pre ?_ ?_); (· exact ⟨_, rfl⟩); conv => whnf)
          | ((with_reducible refine needm_of ?_ ?_); (· first | assumption | exact decide_eq_true (by omega) | decide +kernel | (refine decide_eq_true ?_; simp (disch := omega) only [i64w]; omega)); conv => whnf)
          | ((with_reducible refine condm_pos ?_ ?_); (· assumption); conv => whnf)
          | ((with_reducible refine condm_neg ?_ ?_); (· assumption); conv => whnf)
          | ((with_reducible refine forceL_fv (by assumption) ?_); conv => whnf)
          | ((with_reducible refine forceL_rfv (by assumption) ?_); conv => whnf)
          | ((with_reducible refine forceNm_of ?_); conv => whnf)
          | ((with_reducible refine needm_of (fv_lenL (by assumption) (by assumption)) ?_); conv => whnf)
          | ((with_reducible refine optm_var (fv_strL (by assumption) (by assumption)) (fun s hs => ?_)); conv => whnf)
          | ((with_reducible refine forceA_of ?_); conv => whnf)
          | ((with_reducible refine forceL_pl (by assumption) ?_); conv => whnf)
          | ((with_reducible refine forceL_rpl (by assumption) ?_); conv => whnf)
          | (refine ⟨st, hsl, ld, ?_⟩; conv => whnf)
          | ((with_reducible refine needm_of ?_ ?_); (· first | (rw [hsl, hzl]; rfl) | (rw [hsl]; rfl) | (rw [hzl]; rfl)); conv => whnf)
          | ((with_reducible refine forceL_to (whole_of ?_) ?_); (· rw [hsl]; rfl); conv => whnf)
          | ((with_reducible refine forceL_to (store_all ?_) ?_); (· rw [hsl, hzl]); conv => whnf)
          | ((with_reducible refine optm_of g1 ?_); conv => whnf)
          | ((with_reducible refine optm_of g2 ?_); conv => whnf)
          | ((with_reducible refine optm_of g3 ?_); conv => whnf)
          | ((with_reducible refine optm_of g4 ?_); conv => whnf)
          | ((with_reducible refine optm_of g5 ?_); conv => whnf)
          | ((with_reducible refine optm_of g6 ?_); conv => whnf)
          | fail)
        refine Go.Eng.Fn.frame [] (by rfl) (by exact trivial) (by rfl) (sound22n ?_)
        conv => whnf
        repeat' (first
          | rw [← hz7]
          | (rw [d2]; conv => whnf)
          | (rw [c8]; conv => whnf)
          | (rw [d4]; conv => whnf)
          | ((with_reducible refine regx_of ?_ ?_); (· decide +kernel); conv => whnf)
          | ((with_reducible refine growx_pre ?_ ?_); (· exact ⟨_, rfl⟩); conv => whnf)
          | ((with_reducible refine needm_of ?_ ?_); (· first | assumption | exact decide_eq_true (by omega) | decide +kernel | (refine decide_eq_true ?_; simp (disch := omega) only [i64w]; omega)); conv => whnf)
          | ((with_reducible refine condm_pos ?_ ?_); (· assumption); conv => whnf)
          | ((with_reducible refine condm_neg ?_ ?_); (· assumption); conv => whnf)
          | ((with_reducible refine forceL_fv (by assumption) ?_); conv => whnf)
          | ((with_reducible refine forceL_rfv (by assumption) ?_); conv => whnf)
          | ((with_reducible refine forceNm_of ?_); conv => whnf)
          | ((with_reducible refine needm_of (fv_lenL (by assumption) (by assumption)) ?_); conv => whnf)
          | ((with_reducible refine optm_var (fv_strL (by assumption) (by assumption)) (fun s hs => ?_)); conv => whnf)
          | ((with_reducible refine forceA_of ?_); conv => whnf)
          | ((with_reducible refine forceL_pl (by assumption) ?_); conv => whnf)
          | ((with_reducible refine forceL_rpl (by assumption) ?_); conv => whnf)
          | (refine ⟨st, hsl, ld, ?_⟩; conv => whnf)
          | ((with_reducible refine needm_of ?_ ?_); (· first | (rw [hsl, hzl]; rfl) | (rw [hsl]; rfl) | (rw [hzl]; rfl)); conv => whnf)
          | ((with_reducible refine forceL_to (whole_of ?_) ?_); (· rw [hsl]; rfl); conv => whnf)
          | ((with_reducible refine forceL_to (store_all ?_) ?_); (· rw [hsl, hzl]); conv => whnf)
          | ((with_reducible refine optm_of g1 ?_); conv => whnf)
          | ((with_reducible refine optm_of g2 ?_); conv => whnf)
          | ((with_reducible refine optm_of g3 ?_); conv => whnf)
          | ((with_reducible refine optm_of g4 ?_); conv => whnf)
          | ((with_reducible refine optm_of g5 ?_); conv => whnf)
          | ((with_reducible refine optm_of g6 ?_); conv => whnf)
          | fail)
        refine ⟨len - (i + 1), by omega, Into.weak [0] (F6 room (.rslc p len cap) .nils _) [.cells [.int .i64 room, .nils] 57 false] ?_ ⟨rfl, rfl, rfl, rfl, rfl, trivial⟩ ⟨rfl, trivial⟩ rfl⟩
        exact ⟨i + 1, .nils, by omega, rfl, congrArg (F6 _ _ _) hw, .inl ⟨rfl, rfl⟩⟩
      ·
        conv => whnf
        repeat' (first
          | rw [← hz7]
          | (rw [d2]; conv => whnf)
          | (rw [c8]; conv => whnf)
          | (rw [d4]; conv => whnf)
          | ((with_reducible refine regx_of ?_ ?_); (· decide +kernel); conv => whnf)
          | ((with_reducible refine growx_pre ?_ ?_); (· exact ⟨_, rfl⟩); conv => whnf)
          | ((with_reducible refine needm_of ?_ ?_); (· first | assumption | exact decide_eq_true (by omega) | decide +kernel | (refine decide_eq_true ?_; simp (disch := omega) only [i64w]; omega)); conv => whnf)
          | ((with_reducible refine condm_pos ?_ ?_); (· assumption); conv => whnf)
          | ((with_reducible refine condm_neg ?_ ?_); (· assumption); conv => whnf)
          | ((with_reducible refine forceL_fv (by assumption) ?_); conv => whnf)
          | ((with_reducible refine forceL_rfv (by assumption) ?_); conv => whnf)
          | ((with_reducible refine forceNm_of ?_); conv => whnf)
          | ((with_reducible refine needm_of (fv_lenL (by assumption) (by assumption)) ?_); conv => whnf)
          | ((with_reducible refine optm_var (fv_strL (by assumption) (by assumption)) (fun s hs => ?_)); conv => whnf)
          | ((with_reducible refine forceA_of ?_); conv => whnf)
          | ((with_reducible refine forceL_pl (by assumption) ?_); conv => whnf)
          | ((with_reducible refine forceL_rpl (by assumption) ?_); conv => whnf)
          | (refine ⟨st, hsl, ld, ?_⟩; conv => whnf)
          | ((with_reducible refine needm_of ?_ ?_); (· first | (rw [hsl, hzl]; rfl) | (rw [hsl]; rfl) | (rw [hzl]; rfl)); conv => whnf)
          | ((with_reducible refine forceL_to (whole_of ?_) ?_); (· rw [hsl]; rfl); conv => whnf)
          | ((with_reducible refine forceL_to (store_all ?_) ?_); (· rw [hsl, hzl]); conv => whnf)
          | ((with_reducible refine optm_of g1 ?_); conv => whnf)
          | ((with_reducible refine optm_of g2 ?_); conv => whnf)
          | ((with_reducible refine optm_of g3 ?_); conv => whnf)
          | ((with_reducible refine optm_of g4 ?_); conv => whnf)
          | ((with_reducible refine optm_of g5 ?_); conv => whnf)
          | ((with_reducible refine optm_of g6 ?_); conv => whnf)
          | fail)
        refine Go.Eng.Fn.frame [0] (by rfl) (by exact ⟨rfl, trivial⟩) (by rfl) (copy16n room I ?_)
        conv => whnf
        repeat' (first
          | rw [← hz7]
          | (rw [d2]; conv => whnf)
          | (rw [c8]; conv => whnf)
          | (rw [d4]; conv => whnf)
          | ((with_reducible refine regx_of ?_ ?_); (· decide +kernel); conv => whnf)
          | ((with_reducible refine growx_pre ?_ ?_); (· exact ⟨_, rfl⟩); conv => whnf)
          | ((with_reducible refine needm_of ?_ ?_); (· first | assumption | exact decide_eq_true (by omega) | decide +kernel | (refine decide_eq_true ?_; simp (disch := omega) only [i64w]; omega)); conv => whnf)
          | ((with_reducible refine condm_pos ?_ ?_); (· assumption); conv => whnf)
          | ((with_reducible refine condm_neg ?_ ?_); (· assumption); conv => whnf)
          | ((with_reducible refine forceL_fv (by assumption) ?_); conv => whnf)
          | ((with_reducible refine forceL_rfv (by assumption) ?_); conv => whnf)
          | ((with_reducible refine forceNm_of ?_); conv => whnf)
          | ((with_reducible refine needm_of (fv_lenL (by assumption) (by assumption)) ?_); conv => whnf)
          | ((with_reducible refine optm_var (fv_strL (by assumption) (by assumption)) (fun s hs => ?_)); conv => whnf)
          | ((with_reducible refine forceA_of ?_); conv => whnf)
          | ((with_reducible refine forceL_pl (by assumption) ?_); conv => whnf)
          | ((with_reducible refine forceL_rpl (by assumption) ?_); conv => whnf)
          | (refine ⟨st, hsl, ld, ?_⟩; conv => whnf)
          | ((with_reducible refine needm_of ?_ ?_); (· first | (rw [hsl, hzl]; rfl) | (rw [hsl]; rfl) | (rw [hzl]; rfl)); conv => whnf)
          | ((with_reducible refine forceL_to (whole_of ?_) ?_); (· rw [hsl]; rfl); conv => whnf)
          | ((with_reducible refine forceL_to (store_all ?_) ?_); (· rw [hsl, hzl]); conv => whnf)
          | ((with_reducible refine optm_of g1 ?_); conv => whnf)
          | ((with_reducible refine optm_of g2 ?_); conv => whnf)
          | ((with_reducible refine optm_of g3 ?_); conv => whnf)
          | ((with_reducible refine optm_of g4 ?_); conv => whnf)
          | ((with_reducible refine optm_of g5 ?_); conv => whnf)
          | ((with_reducible refine optm_of g6 ?_); conv => whnf)
          | fail)
        refine Go.Eng.Fn.frame [] (by rfl) (by exact trivial) (by rfl) (sound22n ?_)
        conv => whnf
        repeat' (first
          | rw [← hz7]
          | (rw [d2]; conv => whnf)
          | (rw [c8]; conv => whnf)
          | (rw [d4]; conv => whnf)
          | ((with_reducible refine regx_of ?_ ?_); (· decide +kernel); conv => whnf)
          | ((with_reducible refine growx_pre ?_ ?_); (· exact ⟨_, rfl⟩); conv => whnf)
          | ((with_reducible refine needm_of ?_ ?_); (· first | assumption | exact decide_eq_true (by omega) | decide +kernel | (refine decide_eq_true ?_; simp (disch := omega) only [i64w]; omega)); conv => whnf)
          | ((with_reducible refine condm_pos ?_ ?_); (· assumption); conv => whnf)
          | ((with_reducible refine condm_neg ?_ ?_); (· assumption); conv => whnf)
          | ((with_reducible refine forceL_fv (by assumption) ?_); conv => whnf)
          | ((with_reducible refine forceL_rfv (by assumption) ?_); conv => whnf)
          | ((with_reducible refine forceNm_of ?_); conv => whnf)
          | ((with_reducible refine needm_of (fv_lenL (by assumption) (by assumption)) ?_); conv => whnf)
          | ((with_reducible refine optm_var (fv_strL (by assumption) (by assumption)) (fun s hs => ?_)); conv => whnf)
          | ((with_reducible refine forceA_of ?_); conv => whnf)
          | ((with_reducible refine forceL_pl (by assumption) ?_); conv => whnf)
          | ((with_reducible refine forceL_rpl (by assumption) ?_); conv => whnf)
          | (refine ⟨st, hsl, ld, ?_⟩; conv => whnf)
          | ((with_reducible refine needm_of ?_ ?_); (· first | (rw [hsl, hzl]; rfl) | (rw [hsl]; rfl) | (rw [hzl]; rfl)); conv => whnf)
          | ((with_reducible refine forceL_to (whole_of ?_) ?_); (· rw [hsl]; rfl); conv => whnf)
          | ((with_reducible refine forceL_to (store_all ?_) ?_); (· rw [hsl, hzl]); conv => whnf)
          | ((with_reducible refine optm_of g1 ?_); conv => whnf)
          | ((with_reducible refine optm_of g2 ?_); conv => whnf)
          | ((with_reducible refine optm_of g3 ?_); conv => whnf)
          | ((with_reducible refine optm_of g4 ?_); conv => whnf)
          | ((with_reducible refine optm_of g5 ?_); conv => whnf)
          | ((with_reducible refine optm_of g6 ?_); conv => whnf)
          | fail)
        refine ⟨len - (i + 1), by omega, Into.weak [0] (F6 room (.rslc p len cap) .nils _) [.cells [.int .i64 room, .nils] 57 false] ?_ ⟨rfl, rfl, rfl, rfl, rfl, trivial⟩ ⟨rfl, trivial⟩ rfl⟩
        exact ⟨i + 1, .nils, by omega, rfl, congrArg (F6 _ _ _) hw, .inl ⟨rfl, rfl⟩⟩
      ·
        conv => whnf
        repeat' (first
          | rw [← hz7]
          | (rw [d2]; conv => whnf)
          | (rw [c8]; conv => whnf)
          | (rw [d4]; conv => whnf)
          | ((with_reducible refine regx_of ?_ ?_); (· decide +kernel); conv => whnf)
          | ((with_reducible refine growx_pre ?_ ?_); (· exact ⟨_, rfl⟩); conv => whnf)
          | ((with_reducible refine needm_of ?_ ?_); (· first | assumption | exact decide_eq_true (by omega) | decide +kernel | (refine decide_eq_true ?_; simp (disch := omega) only [i64w]; omega)); conv => whnf)
          | ((with_reducible refine condm_pos ?_ ?_); (· assumption); conv => whnf)
          | ((with_reducible refine condm_neg ?_ ?_); (· assumption); conv => whnf)
          | ((with_reducible refine forceL_fv (by assumption) ?_); conv => whnf)
          | ((with_reducible refine forceL_rfv (by assumption) ?_); conv => whnf)
          | ((with_reducible refine forceNm_of ?_); conv => whnf)
          | ((with_reducible refine needm_of (fv_lenL (by assumption) (by assumption)) ?_); conv => whnf)
          | ((with_reducible refine optm_var (fv_strL (by assumption) (by assumption)) (fun s hs => ?_)); conv => whnf)
          | ((with_reducible refine forceA_of ?_); conv => whnf)
          | ((with_reducible refine forceL_pl (by assumption) ?_); conv => whnf)
          | ((with_reducible refine forceL_rpl (by assumption) ?_); conv => whnf)
          | (refine ⟨st, hsl, ld, ?_⟩; conv => whnf)
          | ((with_reducible refine needm_of ?_ ?_); (· first | (rw [hsl, hzl]; rfl) | (rw [hsl]; rfl) | (rw [hzl]; rfl)); conv => whnf)
          | ((with_reducible refine forceL_to (whole_of ?_) ?_); (· rw [hsl]; rfl); conv => whnf)
          | ((with_reducible refine forceL_to (store_all ?_) ?_); (· rw [hsl, hzl]); conv => whnf)
          | ((with_reducible refine optm_of g1 ?_); conv => whnf)
          | ((with_reducible refine optm_of g2 ?_); conv => whnf)
          | ((with_reducible refine optm_of g3 ?_); conv => whnf)
          | ((with_reducible refine optm_of g4 ?_); conv => whnf)
          | ((with_reducible refine optm_of g5 ?_); conv => whnf)
          | ((with_reducible refine optm_of g6 ?_); conv => whnf)
          | fail)
        refine Go.Eng.Fn.frame [0] (by rfl) (by exact ⟨rfl, trivial⟩) (by rfl) (turn17n room I J ?_)
        conv => whnf
        repeat' (first
          | rw [← hz7]
          | (rw [d2]; conv => whnf)
          | (rw [c8]; conv => whnf)
          | (rw [d4]; conv => whnf)
          | ((with_reducible refine regx_of ?_ ?_); (· decide +kernel); conv => whnf)
          | ((with_reducible refine growx_pre ?_ ?_); (· exact ⟨_, rfl⟩); conv => whnf)
          | ((with_reducible refine needm_of ?_ ?_); (· first | assumption | exact decide_eq_true (by omega) | decide +kernel | (refine decide_eq_true ?_; simp (disch := omega) only [i64w]; omega)); conv => whnf)
          | ((with_reducible refine condm_pos ?_ ?_); (· assumption); conv => whnf)
          | ((with_reducible refine condm_neg ?_ ?_); (· assumption); conv => whnf)
          | ((with_reducible refine forceL_fv (by assumption) ?_); conv => whnf)
          | ((with_reducible refine forceL_rfv (by assumption) ?_); conv => whnf)
          | ((with_reducible refine forceNm_of ?_); conv => whnf)
          | ((with_reducible refine needm_of (fv_lenL (by assumption) (by assumption)) ?_); conv => whnf)
          | ((with_reducible refine optm_var (fv_strL (by assumption) (by assumption)) (fun s hs => ?_)); conv => whnf)
          | ((with_reducible refine forceA_of ?_); conv => whnf)
          | ((with_reducible refine forceL_pl (by assumption) ?_); conv => whnf)
          | ((with_reducible refine forceL_rpl (by assumption) ?_); conv => whnf)
          | (refine ⟨st, hsl, ld, ?_⟩; conv => whnf)
          | ((with_reducible refine needm_of ?_ ?_); (· first | (rw [hsl, hzl]; rfl) | (rw [hsl]; rfl) | (rw [hzl]; rfl)); conv => whnf)
          | ((with_reducible refine forceL_to (whole_of ?_) ?_); (· rw [hsl]; rfl); conv => whnf)
          | ((with_reducible refine forceL_to (store_all ?_) ?_); (· rw [hsl, hzl]); conv => whnf)
          | ((with_reducible refine optm_of g1 ?_); conv => whnf)
          | ((with_reducible refine optm_of g2 ?_); conv => whnf)
          | ((with_reducible refine optm_of g3 ?_); conv => whnf)
          | ((with_reducible refine optm_of g4 ?_); conv => whnf)
          | ((with_reducible refine optm_of g5 ?_); conv => whnf)
          | ((with_reducible refine optm_of g6 ?_); conv => whnf)
          | fail)
        refine Go.Eng.Fn.frame [0] (by rfl) (by exact ⟨rfl, trivial⟩) (by rfl) (len14n room ?_)
        conv => whnf
        repeat' (first
          | rw [← hz7]
          | (rw [d2]; conv => whnf)
          | (rw [c8]; conv => whnf)
          | (rw [d4]; conv => whnf)
          | ((with_reducible refine regx_of ?_ ?_); (· decide +kernel); conv => whnf)
          | ((with_reducible refine growx_pre ?_ ?_); (· exact ⟨_, rfl⟩); conv => whnf)
          | ((with_reducible refine needm_of ?_ ?_); (· first | assumption | exact decide_eq_true (by omega) | decide +kernel | (refine decide_eq_true ?_; simp (disch := omega) only [i64w]; omega)); conv => whnf)
          | ((with_reducible refine condm_pos ?_ ?_); (· assumption); conv => whnf)
          | ((with_reducible refine condm_neg ?_ ?_); (· assumption); conv => whnf)
          | ((with_reducible refine forceL_fv (by assumption) ?_); conv => whnf)
          | ((with_reducible refine forceL_rfv (by assumption) ?_); conv => whnf)
          | ((with_reducible refine forceNm_of ?_); conv => whnf)
          | ((with_reducible refine needm_of (fv_lenL (by assumption) (by assumption)) ?_); conv => whnf)
          | ((with_reducible refine optm_var (fv_strL (by assumption) (by assumption)) (fun s hs => ?_)); conv => whnf)
          | ((with_reducible refine forceA_of ?_); conv => whnf)
          | ((with_reducible refine forceL_pl (by assumption) ?_); conv => whnf)
          | ((with_reducible refine forceL_rpl (by assumption) ?_); conv => whnf)
          | (refine ⟨st, hsl, ld, ?_⟩; conv => whnf)
          | ((with_reducible refine needm_of ?_ ?_); (· first | (rw [hsl, hzl]; rfl) | (rw [hsl]; rfl) | (rw [hzl]; rfl)); conv => whnf)
          | ((with_reducible refine forceL_to (whole_of ?_) ?_); (· rw [hsl]; rfl); conv => whnf)
          | ((with_reducible refine forceL_to (store_all ?_) ?_); (· rw [hsl, hzl]); conv => whnf)
          | ((with_reducible refine optm_of g1 ?_); conv => whnf)
          | ((with_reducible refine optm_of g2 ?_); conv => whnf)
          | ((with_reducible refine optm_of g3 ?_); conv => whnf)
          | ((with_reducible refine optm_of g4 ?_); conv => whnf)
          | ((with_reducible refine optm_of g5 ?_); conv => whnf)
          | ((with_reducible refine optm_of g6 ?_); conv => whnf)
          | fail)
        refine Go.Eng.Fn.frame [] (by rfl) (by exact trivial) (by rfl) (sound22n ?_)
        conv => whnf
        repeat' (first
          | rw [← hz7]
          | (rw [d2]; conv => whnf)
          | (rw [c8]; conv => whnf)
          | (rw [d4]; conv => whnf)
          | ((with_reducible refine regx_of ?_ ?_); (· decide +kernel); conv => whnf)
          | ((with_reducible refine growx_pre ?_ ?_); (· exact ⟨_, rfl⟩); conv => whnf)
          | ((with_reducible refine needm_of ?_ ?_); (· first | assumption | exact decide_eq_true (by omega) | decide +kernel | (refine decide_eq_true ?_; simp (disch := omega) only [i64w]; omega)); conv => whnf)
          | ((with_reducible refine condm_pos ?_ ?_); (· assumption); conv => whnf)
          | ((with_reducible refine condm_neg ?_ ?_); (· assumption); conv => whnf)
          | ((with_reducible refine forceL_fv (by assumption) ?_); conv => whnf)
          | ((with_reducible refine forceL_rfv (by assumption) ?_); conv => whnf)
          | ((with_reducible refine forceNm_of ?_); conv => whnf)
          | ((with_reducible refine needm_of (fv_lenL (by assumption) (by assumption)) ?_); conv => whnf)
          | ((with_reducible refine optm_var (fv_strL (by assumption) (by assumption)) (fun s hs => ?_)); conv => whnf)
          | ((with_reducible refine forceA_of ?_); conv => whnf)
          | ((with_reducible refine forceL_pl (by assumption) ?_); conv => whnf)
          | ((with_reducible refine forceL_rpl (by assumption) ?_); conv => whnf)
          | (refine ⟨st, hsl, ld, ?_⟩; conv => whnf)
          | ((with_reducible refine needm_of ?_ ?_); (· first | (rw [hsl, hzl]; rfl) | (rw [hsl]; rfl) | (rw [hzl]; rfl)); conv => whnf)
          | ((with_reducible refine forceL_to (whole_of ?_) ?_); (· rw [hsl]; rfl); conv => whnf)
          | ((with_reducible refine forceL_to (store_all ?_) ?_); (· rw [hsl, hzl]); conv => whnf)
          | ((with_reducible refine optm_of g1 ?_); conv => whnf)
          | ((with_reducible refine optm_of g2 ?_); conv => whnf)
          | ((with_reducible refine optm_of g3 ?_); conv => whnf)
          | ((with_reducible refine optm_of g4 ?_); conv => whnf)
          | ((with_reducible refine optm_of g5 ?_); conv => whnf)
          | ((with_reducible refine optm_of g6 ?_); conv => whnf)
          | fail)
        refine ⟨len - (i + 1), by omega, Into.weak [0] (F6 room (.rslc p len cap) .nils _) [.cells [.int .i64 room, .nils] 57 false] ?_ ⟨rfl, rfl, rfl, rfl, rfl, trivial⟩ ⟨rfl, trivial⟩ rfl⟩
        exact ⟨i + 1, .nils, by omega, rfl, congrArg (F6 _ _ _) hw, .inl ⟨rfl, rfl⟩⟩
      ·
        conv => whnf
        repeat' (first
          | rw [← hz7]
          | (rw [d2]; conv => whnf)
          | (rw [c8]; conv => whnf)
          | (rw [d4]; conv => whnf)
          | ((with_reducible refine regx_of ?_ ?_); (· decide +kernel); conv => whnf)
          | ((with_reducible refine growx_pre ?_ ?_); (· exact ⟨_, rfl⟩); conv => whnf)
          | ((with_reducible refine needm_of ?_ ?_); (· first | assumption | exact decide_eq_true (by omega) | decide +kernel | (refine decide_eq_true ?_; simp (disch := omega) only [i64w]; omega)); conv => whnf)
          | ((with_reducible refine condm_pos ?_ ?_); (· assumption); conv => whnf)
          | ((with_reducible refine condm_neg ?_ ?_); (· assumption); conv => whnf)
          | ((with_reducible refine forceL_fv (by assumption) ?_); conv => whnf)
          | ((with_reducible refine forceL_rfv (by assumption) ?_); conv => whnf)
          | ((with_reducible refine forceNm_of ?_); conv => whnf)
          | ((with_reducible refine needm_of (fv_lenL (by assumption) (by assumption)) ?_); conv => whnf)
          | ((with_reducible refine optm_var (fv_strL (by assumption) (by assumption)) (fun s hs => ?_)); conv => whnf)
          | ((with_reducible refine forceA_of ?_); conv => whnf)
          | ((with_reducible refine forceL_pl (by assumption) ?_); conv => whnf)
          | ((with_reducible refine forceL_rpl (by assumption) ?_); conv => whnf)
          | (refine ⟨st, hsl, ld, ?_⟩; conv => whnf)
          | ((with_reducible refine needm_of ?_ ?_); (· first | (rw [hsl, hzl]; rfl) | (rw [hsl]; rfl) | (rw [hzl]; rfl)); conv => whnf)
          | ((with_reducible refine forceL_to (whole_of ?_) ?_); (· rw [hsl]; rfl); conv => whnf)
          | ((with_reducible refine forceL_to (store_all ?_) ?_); (· rw [hsl, hzl]); conv => whnf)
          | ((with_reducible refine optm_of g1 ?_); conv => whnf)
          | ((with_reducible refine optm_of g2 ?_); conv => whnf)
          | ((with_reducible refine optm_of g3 ?_); conv => whnf)
          | ((with_reducible refine optm_of g4 ?_); conv => whnf)
          | ((with_reducible refine optm_of g5 ?_); conv => whnf)
          | ((with_reducible refine optm_of g6 ?_); conv => whnf)
          | fail)
        refine loopx_iter 1 ?_
        conv => whnf
        repeat' (first
          | rw [← hz7]
          | (rw [d2]; conv => whnf)
          | (rw [c8]; conv => whnf)
          | (rw [d4]; conv => whnf)
          | ((with_reducible refine regx_of ?_ ?_); (· decide +kernel); conv => whnf)
          | ((with_reducible refine growx_pre ?_ ?_); (· exact ⟨_, rfl⟩); conv => whnf)
          | ((with_reducible refine needm_of ?_ ?_); (· first | assumption | exact decide_eq_true (by omega) | decide +kernel | (refine decide_eq_true ?_; simp (disch := omega) only [i64w]; omega)); conv => whnf)
          | ((with_reducible refine condm_pos ?_ ?_); (· assumption); conv => whnf)
          | ((with_reducible refine condm_neg ?_ ?_); (· assumption); conv => whnf)
          | ((with_reducible refine forceL_fv (by assumption) ?_); conv => whnf)
          | ((with_reducible refine forceL_rfv (by assumption) ?_); conv => whnf)
          | ((with_reducible refine forceNm_of ?_); conv => whnf)
          | ((with_reducible refine needm_of (fv_lenL (by assumption) (by assumption)) ?_); conv => whnf)
          | ((with_reducible refine optm_var (fv_strL (by assumption) (by assumption)) (fun s hs => ?_)); conv => whnf)
          | ((with_reducible refine forceA_of ?_); conv => whnf)
          | ((with_reducible refine forceL_pl (by assumption) ?_); conv => whnf)
          | ((with_reducible refine forceL_rpl (by assumption) ?_); conv => whnf)
          | (refine ⟨st, hsl, ld, ?_⟩; conv => whnf)
          | ((with_reducible refine needm_of ?_ ?_); (· first | (rw [hsl, hzl]; rfl) | (rw [hsl]; rfl) | (rw [hzl]; rfl)); conv => whnf)
          | ((with_reducible refine forceL_to (whole_of ?_) ?_); (· rw [hsl]; rfl); conv => whnf)
          | ((with_reducible refine forceL_to (store_all ?_) ?_); (· rw [hsl, hzl]); conv => whnf)
          | ((with_reducible refine optm_of g1 ?_); conv => whnf)
          | ((with_reducible refine optm_of g2 ?_); conv => whnf)
          | ((with_reducible refine optm_of g3 ?_); conv => whnf)
          | ((with_reducible refine optm_of g4 ?_); conv => whnf)
          | ((with_reducible refine optm_of g5 ?_); conv => whnf)
          | ((with_reducible refine optm_of g6 ?_); conv => whnf)
          | fail)
        refine Go.Eng.Fn.frame [0] (by rfl) (by exact ⟨rfl, trivial⟩) (by rfl) (cut13n room fr ?_)
        conv => whnf
        repeat' (first
          | rw [← hz7]
          | (rw [d2]; conv => whnf)
          | (rw [c8]; conv => whnf)
          | (rw [d4]; conv => whnf)
          | ((with_reducible refine regx_of ?_ ?_); (· decide +kernel); conv => whnf)
          | ((with_reducible refine growx_pre ?_ ?_); (· exact ⟨_, rfl⟩); conv => whnf)
          | ((with_reducible refine needm_of ?_ ?_); (· first | assumption | exact decide_eq_true (by omega) | decide +kernel | (refine decide_eq_true ?_; simp (disch := omega) only [i64w]; omega)); conv => whnf)
          | ((with_reducible refine condm_pos ?_ ?_); (· assumption); conv => whnf)
          | ((with_reducible refine condm_neg ?_ ?_); (· assumption); conv => whnf)
          | ((with_reducible refine forceL_fv (by assumption) ?_); conv => whnf)
          | ((with_reducible refine forceL_rfv (by assumption) ?_); conv => whnf)
          | ((with_reducible refine forceNm_of ?_); conv => whnf)
          | ((with_reducible refine needm_of (fv_lenL (by assumption) (by assumption)) ?_); conv => whnf)
          | ((with_reducible refine optm_var (fv_strL (by assumption) (by assumption)) (fun s hs => ?_)); conv => whnf)
          | ((with_reducible refine forceA_of ?_); conv => whnf)
          | ((with_reducible refine forceL_pl (by assumption) ?_); conv => whnf)
          | ((with_reducible refine forceL_rpl (by assumption) ?_); conv => whnf)
          | (refine ⟨st, hsl, ld, ?_⟩; conv => whnf)
          | ((with_reducible refine needm_of ?_ ?_); (· first | (rw [hsl, hzl]; rfl) | (rw [hsl]; rfl) | (rw [hzl]; rfl)); conv => whnf)
          | ((with_reducible refine forceL_to (whole_of ?_) ?_); (· rw [hsl]; rfl); conv => whnf)
          | ((with_reducible refine forceL_to (store_all ?_) ?_); (· rw [hsl, hzl]); conv => whnf)
          | ((with_reducible refine optm_of g1 ?_); conv => whnf)
          | ((with_reducible refine optm_of g2 ?_); conv => whnf)
          | ((with_reducible refine optm_of g3 ?_); conv => whnf)
          | ((with_reducible refine optm_of g4 ?_); conv => whnf)
          | ((with_reducible refine optm_of g5 ?_); conv => whnf)
          | ((with_reducible refine optm_of g6 ?_); conv => whnf)
          | fail)
        refine Go.Eng.Fn.frame [] (by rfl) (by exact trivial) (by rfl) (sound22n ?_)
        conv => whnf
        repeat' (first
          | rw [← hz7]
          | (rw [d2]; conv => whnf)
          | (rw [c8]; conv => whnf)
          | (rw [d4]; conv => whnf)
          | ((with_reducible refine regx_of ?_ ?_); (· decide +kernel); conv => whnf)
          | ((with_reducible refine growx_pre ?_ ?_); (· exact ⟨_, rfl⟩); conv => whnf)
          | ((with_reducible refine needm_of ?_ ?_); (· first | assumption | exact decide_eq_true (by omega) | decide +kernel | (refine decide_eq_true ?_; simp (disch := omega) only [i64w]; omega)); conv => whnf)
          | ((with_reducible refine condm_pos ?_ ?_); (· assumption); conv => whnf)
          | ((with_reducible refine condm_neg ?_ ?_); (· assumption); conv => whnf)
          | ((with_reducible refine forceL_fv (by assumption) ?_); conv => whnf)
          | ((with_reducible refine forceL_rfv (by assumption) ?_); conv => whnf)
          | ((with_reducible refine forceNm_of ?_); conv => whnf)
          | ((with_reducible refine needm_of (fv_lenL (by assumption) (by assumption)) ?_); conv => whnf)
          | ((with_reducible refine optm_var (fv_strL (by assumption) (by assumption)) (fun s hs => ?_)); conv => whnf)
          | ((with_reducible refine forceA_of ?_); conv => whnf)
          | ((with_reducible refine forceL_pl (by assumption) ?_); conv => whnf)
          | ((with_reducible refine forceL_rpl (by assumption) ?_); conv => whnf)
          | (refine ⟨st, hsl, ld, ?_⟩; conv => whnf)
          | ((with_reducible refine needm_of ?_ ?_); (· first | (rw [hsl, hzl]; rfl) | (rw [hsl]; rfl) | (rw [hzl]; rfl)); conv => whnf)
          | ((with_reducible refine forceL_to (whole_of ?_) ?_); (· rw [hsl]; rfl); conv => whnf)
          | ((with_reducible refine forceL_to (store_all ?_) ?_); (· rw [hsl, hzl]); conv => whnf)
          | ((with_reducible refine optm_of g1 ?_); conv => whnf)
          | ((with_reducible refine optm_of g2 ?_); conv => whnf)
          | ((with_reducible refine optm_of g3 ?_); conv => whnf)
          | ((with_reducible refine optm_of g4 ?_); conv => whnf)
          | ((with_reducible refine optm_of g5 ?_); conv => whnf)
          | ((with_reducible refine optm_of g6 ?_); conv => whnf)
          | fail)
        refine ⟨len - (i + 1), by omega, Into.weak [0] (F6 room (.rslc p len cap) .nils _) [.cells [.int .i64 room, .nils] 57 false] ?_ ⟨rfl, rfl, rfl, rfl, rfl, trivial⟩ ⟨rfl, trivial⟩ rfl⟩
        exact ⟨i + 1, .nils, by omega, rfl, congrArg (F6 _ _ _) hw, .inl ⟨rfl, rfl⟩⟩
      ·
        conv => whnf
        repeat' (first
          | rw [← hz7]
          | (rw [d2]; conv => whnf)
          | (rw [c8]; conv => whnf)
          | (rw [d4]; conv => whnf)
          | ((with_reducible refine regx_of ?_ ?_); (· decide +kernel); conv => whnf)
          | ((with_reducible refine growx_pre ?_ ?_); (· exact ⟨_, rfl⟩); conv => whnf)
          | ((with_reducible refine needm_of ?_ ?_); (· first | assumption | exact decide_eq_true (by omega) | decide +kernel | (refine decide_eq_true ?_; simp (disch := omega) only [i64w]; omega)); conv => whnf)
          | ((with_reducible refine condm_pos ?_ ?_); (· assumption); conv => whnf)
          | ((with_reducible refine condm_neg ?_ ?_); (· assumption); conv => whnf)
          | ((with_reducible refine forceL_fv (by assumption) ?_); conv => whnf)
          | ((with_reducible refine forceL_rfv (by assumption) ?_); conv => whnf)
          | ((with_reducible refine forceNm_of ?_); conv => whnf)
          | ((with_reducible refine needm_of (fv_lenL (by assumption) (by assumption)) ?_); conv => whnf)
          | ((with_reducible refine optm_var (fv_strL (by assumption) (by assumption)) (fun s hs => ?_)); conv => whnf)
          | ((with_reducible refine forceA_of ?_); conv => whnf)
          | ((with_reducible refine forceL_pl (by assumption) ?_); conv => whnf)
          | ((with_reducible refine forceL_rpl (by assumption) ?_); conv => whnf)
          | (refine ⟨st, hsl, ld, ?_⟩; conv => whnf)
          | ((with_reducible refine needm_of ?_ ?_); (· first | (rw [hsl, hzl]; rfl) | (rw [hsl]; rfl) | (rw [hzl]; rfl)); conv => whnf)
          | ((with_reducible refine forceL_to (whole_of ?_) ?_); (· rw [hsl]; rfl); conv => whnf)
          | ((with_reducible refine forceL_to (store_all ?_) ?_); (· rw [hsl, hzl]); conv => whnf)
          | ((with_reducible refine optm_of g1 ?_); conv => whnf)
          | ((with_reducible refine optm_of g2 ?_); conv => whnf)
          | ((with_reducible refine optm_of g3 ?_); conv => whnf)
          | ((with_reducible refine optm_of g4 ?_); conv => whnf)
          | ((with_reducible refine optm_of g5 ?_); conv => whnf)
          | ((with_reducible refine optm_of g6 ?_); conv => whnf)
          | fail)
        refine Go.Eng.Fn.frame [] (by rfl) (by exact trivial) (by rfl) (sound22n ?_)
        conv => whnf
        repeat' (first
          | rw [← hz7]
          | (rw [d2]; conv => whnf)
          | (rw [c8]; conv => whnf)
          | (rw [d4]; conv => whnf)
          | ((with_reducible refine regx_of ?_ ?_); (· decide +kernel); conv => whnf)
          | ((with_reducible refine growx_pre ?_ ?_); (· exact ⟨_, rfl⟩); conv => whnf)
          | ((with_reducible refine needm_of ?_ ?_); (· first | assumption | exact decide_eq_true (by omega) | decide +kernel | (refine decide_eq_true ?_; simp (disch := omega) only [i64w]; omega)); conv => whnf)
          | ((with_reducible refine condm_pos ?_ ?_); (· assumption); conv => whnf)
          | ((with_reducible refine condm_neg ?_ ?_); (· assumption); conv => whnf)
          | ((with_reducible refine forceL_fv (by assumption) ?_); conv => whnf)
          | ((with_reducible refine forceL_rfv (by assumption) ?_); conv => whnf)
          | ((with_reducible refine forceNm_of ?_); conv => whnf)
          | ((with_reducible refine needm_of (fv_lenL (by assumption) (by assumption)) ?_); conv => whnf)
          | ((with_reducible refine optm_var (fv_strL (by assumption) (by assumption)) (fun s hs => ?_)); conv => whnf)
          | ((with_reducible refine forceA_of ?_); conv => whnf)
          | ((with_reducible refine forceL_pl (by assumption) ?_); conv => whnf)
          | ((with_reducible refine forceL_rpl (by assumption) ?_); conv => whnf)
          | (refine ⟨st, hsl, ld, ?_⟩; conv => whnf)
          | ((with_reducible refine needm_of ?_ ?_); (· first | (rw [hsl, hzl]; rfl) | (rw [hsl]; rfl) | (rw [hzl]; rfl)); conv => whnf)
          | ((with_reducible refine forceL_to (whole_of ?_) ?_); (· rw [hsl]; rfl); conv => whnf)
          | ((with_reducible refine forceL_to (store_all ?_) ?_); (· rw [hsl, hzl]); conv => whnf)
          | ((with_reducible refine optm_of g1 ?_); conv => whnf)
          | ((with_reducible refine optm_of g2 ?_); conv => whnf)
          | ((with_reducible refine optm_of g3 ?_); conv => whnf)
          | ((with_reducible refine optm_of g4 ?_); conv => whnf)
          | ((with_reducible refine optm_of g5 ?_); conv => whnf)
          | ((with_reducible refine optm_of g6 ?_); conv => whnf)
          | fail)
        refine ⟨len - (i + 1), by omega, Into.weak [0] (F6 room (.rslc p len cap) .nils _) [.cells [.int .i64 room, .nils] 57 false] ?_ ⟨rfl, rfl, rfl, rfl, rfl, trivial⟩ ⟨rfl, trivial⟩ rfl⟩
        exact ⟨i + 1, .nils, by omega, rfl, congrArg (F6 _ _ _) hw, .inl ⟨rfl, rfl⟩⟩
  · exact hQ _ _ _ hi (.inl ⟨rfl, rfl⟩)
end
end Go.Proofs.Ytkggpkgnkppceaa.LK
